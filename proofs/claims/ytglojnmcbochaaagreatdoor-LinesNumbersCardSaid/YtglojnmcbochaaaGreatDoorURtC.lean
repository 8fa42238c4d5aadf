/-
 storemanref31.tells: an answer's words by the document. Condition: texts are no longer than texts may be.
-/
import Derived.Test.YtglojnmcbochaaaGreatDoorURtB
import Derived.Test.YtglojnmcbochaaaGreatDoorUWrB
import Derived.Test.YtglojnmcbochaaaGreatDoorUWrD
namespace Go.Proofs.YtglojnmcbochaaaGreatDoor
open Go.RowKit Go.Maps
set_option linter.unusedVariables false
set_option linter.unusedSimpArgs false

theorem bapp (a b : ByteArray) : (a ++ b).data.toList = a.data.toList ++ b.data.toList := by rw [ByteArray.data_append]; simp
theorem ba_is {s : ByteArray} {l : List UInt8} (h : s.data.toList = l) : s = ⟨l.toArray⟩ := by
 obtain ⟨⟨s⟩⟩ := s
 simp only at h
 rw [h]
theorem bz_le {l : List UInt8} {n : Nat} (h : l.length ≤ n) : (⟨l.toArray⟩ : ByteArray).size ≤ n := h
theorem itoa_zero9 : Lib.itoa 0 = [48] := by
 unfold Lib.itoa
 rw [if_neg (by decide), Lib.decDigits, dif_pos (by decide)]
 rfl
theorem itoa_one9 : Lib.itoa 1 = [49] := by
 unfold Lib.itoa
 rw [if_neg (by decide), Lib.decDigits, dif_pos (by decide)]
 rfl
theorem rightT_lots {t : TellV} (h : rightT t = true) (he : t.err = 0) : ∀ l ∈ t.lots, lotB l = true := by
 unfold rightT at h
 split at h
 ·cases h
 ·try rw [if_neg (by omega)] at h
  simp only [zD, Bool.or_eq_true, zE] at h
  obtain ⟨_, _, _, _, _, _, hl, _⟩ := h
  exact fun l hm => List.all_eq_true.1 hl l hm
theorem rightT_code {t : TellV} (h : rightT t = true) (he : t.err = 0) : t.code.length ≤ 12 := by
 unfold rightT at h
 split at h
 ·cases h
 ·try rw [if_neg (by omega)] at h
  simp only [zD, Bool.or_eq_true, zE] at h
  obtain ⟨_, _, hc, _⟩ := h
  rcases hc with hc | hc
  ·rw [hc]; simp
  ·have := codeL_len hc; omega
theorem lot_item {l : LotV} (h : lotB l = true) : l.item.length ≤ 12 := by
 unfold lotB at h
 simp only [zD] at h
 have := codeL_len h.2.1
 omega
def RtRel (T n : Nat) (w : World) (b : Nat) (cs : Array Value) (f : Nat → List UInt8) (q0 q : Nat) (v i : Value) (wr : World) : Prop := ∃ (j : Nat) (s : ByteArray), j ≤ n ∧ i = .int .i64 j ∧ v = .string s ∧ s.data.toList = f j ∧ s.size ≤ q0 + q * j ∧ Blk wr b T cs ∧ Turned (fun _ => False) w wr
set_option maxRecDepth 100000 in
set_option maxHeartbeats 8000000 in
theorem rtells_any (t : TellV) (S : TellS) (w : World) (hIs : TellIs w t S) (hok : t.Ok) : Calls Tryz.prog 41 #[.agg (tellC t S)] w (StrNew (each32 (tellsW t)) w) := by
 have mixed : Tryz.prog.follows .mixedOrders = true := by kernel_rfl
 have hRt := hZ (fun W (h : Turned (fun _ => False) w W) => rtell_right_any t S W (hIs.fresh h) hok)
 have hl1 := SlL.len hIs.lots
 have hl2 := SlU.len hIs.uses
 have hb1 := Nat.le_trans hIs.lots.le hIs.lots.max
 have hb2 := Nat.le_trans hIs.uses.le hIs.uses.max
 unfold maxLen at hb1 hb2
 have hLk0 := hok.lots
 have hUk0 := hok.uses
 have hst := hok.state
 unfold isByte at hst
 have hI := hok
 obtain ⟨er, id, dy, cd, st, lots, uses⟩ := t
 obtain ⟨⟨LA, Ln, Lc⟩, ⟨UA, Un, Uc⟩⟩ := S
 simp only at hl1 hl2 hb1 hb2 hLk0 hUk0 hst
 have hL := hZ hIs.lots
 have hU := hZ hIs.uses
 have hLk := hZ hLk0
 have hUk := hZ hUk0
 have hl1' := hZ hl1
 have hl2' := hZ hl2
 clear hIs hok hl1 hl2 hLk0 hUk0
 unfold tellC strV at hRt ⊢
 simp only at hRt ⊢
 have hsl0 : (⟨cd.toArray⟩ : ByteArray).toList = cd := by rw [ByteArray.toList_eq]
 have hsd0 : (⟨cd.toArray⟩ : ByteArray).data.toList = cd := by simp
 generalize (⟨cd.toArray⟩ : ByteArray) = str at *
 have hsl := hZ hsl0
 have hsd := hZ hsd0
 clear hsl0 hsd0
 go_enter Tryz.func41, Tryz.ntmps41
 go_wp2_with fail
 have tb := (Turned.refl (fun _ => False) w).alloc (.cells #[.int .i64 er, .int .i64 id, .int .i64 dy, .string str, .int .u8 st, .slice LA Ln Lc, .slice UA Un Uc] 42)
 have hB0 := Blk.new w 42 #[.int .i64 er, .int .i64 id, .int .i64 dy, .string str, .int .u8 st, .slice LA Ln Lc, .slice UA Un Uc]
 refine (hRt.out _ tb).mono ?_
 rintro e W1 ⟨rfl, t1⟩
 have T1 := hZ (tb.and_ t1)
 have BT1 := hZ (hB0.turned t1 (fun e => e))
 obtain ⟨bt, hbt⟩ : ∃ bt, w.heap.size = bt := ⟨_, rfl⟩
 rw [hbt] at BT1 ⊢
 clear hbt tb t1 hB0 hRt
 obtain ⟨x0, x1, x2, x3, x4, x5, x6⟩ := BT1.out.cells7
 cases hr : rightT ⟨er, id, dy, cd, st, lots, uses⟩ with
 | false =>
  have hr' := hZ hr
  clear hr
  go_wp2_with fail
  go_ret
  have e : tellsW ⟨er, id, dy, cd, st, lots, uses⟩ = [[110, 111, 110, 101]] := by unfold tellsW; rw [if_neg (by rw [hr'.out]; decide)]
  rw [e]
  exact ⟨rfl, T1.out⟩
 | true =>
  have hr' := hZ hr
  clear hr
  have hb4 := hZ (rightT_few hr'.out)
  by_cases he : er = 0
  ·have he2 : (er != 0) = false := by simp [he]
   have he' := hZ he
   clear he
   have hlb := hZ (rightT_lots (t := ⟨er, id, dy, cd, st, lots, uses⟩) hr'.out (by simpa using he'.out))
   have hcl : str.size ≤ 12 := by rw [Lib.size_eq, hsd.out]; exact rightT_code (t := ⟨er, id, dy, cd, st, lots, uses⟩) hr'.out (by simpa using he'.out)
   go_upto_region 5 with fail
   refine wp_region_segs (fun w' => Blk w' bt 42 #[.int .i64 er, .int .i64 id, .int .i64 dy, .string str, .int .u8 st, .slice LA Ln Lc, .slice UA Un Uc]) (segT [0, 1, 4, 5] ++ segF [2] ++ segT [3] ++ segF [6] ++ segT [7, 8]) mixed (by kernel_rfl) (fun _ _ _ _ _ h => h) ?_
   simp only [segT, segF, pickSegs, zF, List.map_nil, zG, zH, List.filterMap_cons, List.filterMap_nil, zI, zJ, Option.map_some]
   have q := (Turned.refl (fun _ => False) W1).drew
   have hS : Blk W1.drew bt 42 #[.int .i64 er, .int .i64 id, .int .i64 dy, .string str, .int .u8 st, .slice LA Ln Lc, .slice UA Un Uc] := BT1.out.drew
   have TX := hZ (T1.out.and_ q)
   clear q T1 BT1 x0 x1 x2 x3 x4 x5 x6
   generalize W1.drew = W2 at *
   iterate 4 (refine wpSegs_take (v := ?_) hS rfl (fun w' hw => ?_) ?_; rotate_left; (obtain ⟨x0, x1, x2, x3, x4, x5, x6⟩ := Blk.cells7 hw; go_simp; (try rw [if_neg (by omega)]); try with_reducible rfl); (try simp only [Act.put, zA, zB, zC]))
   refine wpSegs_run rfl (fun K hK => ?_)
   go_simp
   refine (rtext32_any id _ hI.id).mono ?_
   rintro e vs1 ⟨rfl, q⟩
   obtain ⟨s1, hs1, hds1, hzs1⟩ : ∃ s1 : ByteArray, s1 = ⟨(32 :: Lib.itoa id).toArray⟩ ∧ s1.data.toList = 32 :: Lib.itoa id ∧ s1.size ≤ 22 := ⟨_, rfl, by simp, bz_le (by have := itoa_len id hI.id; simp only [List.length_cons]; omega)⟩
   rw [← hs1]
   clear hs1
   have hds1 := hZ hds1
   have hS2 := hS.turned q (fun e => e)
   refine hK.out _ _ hS2 ?_
   clear hK K
   have TX := hZ (TX.out.and_ q)
   clear q hS
   have hS := hS2
   clear hS2
   (try simp only [Act.put, zA, zB, zC])
   have hbz : ((⟨#[32, 111, 107]⟩ : ByteArray) ++ s1).size ≤ 3 + 22 := by rw [ByteArray.size_append]; have := (show (⟨#[32, 111, 107]⟩ : ByteArray).size = 3 from rfl); omega
   (refine wpSegs_take (v := ?_) hS rfl (fun w' hw => ?_) ?_; rotate_left; (obtain ⟨x0, x1, x2, x3, x4, x5, x6⟩ := Blk.cells7 hw; go_simp; (try rw [if_neg (by omega)]); try with_reducible rfl); (try simp only [Act.put, zA, zB, zC]))
   obtain ⟨s2, hs2⟩ : ∃ s2, (⟨#[32, 111, 107]⟩ : ByteArray) ++ s1 = s2 := ⟨_, rfl⟩
   rw [hs2]
   have hzs2 : s2.size ≤ 3 + 22 := by rw [← hs2]; exact hbz
   have hds2 := hZ (show s2.data.toList = ([32, 111, 107] ++ (32 :: Lib.itoa id)) from by rw [← hs2, bapp, hds1.out])
   clear hs2 hbz
   refine wpSegs_run rfl (fun K hK => ?_)
   go_simp
   refine (rtext32_any dy _ hI.day).mono ?_
   rintro e vs3 ⟨rfl, q⟩
   obtain ⟨s3, hs3, hds3, hzs3⟩ : ∃ s3 : ByteArray, s3 = ⟨(32 :: Lib.itoa dy).toArray⟩ ∧ s3.data.toList = 32 :: Lib.itoa dy ∧ s3.size ≤ 22 := ⟨_, rfl, by simp, bz_le (by have := itoa_len dy hI.day; simp only [List.length_cons]; omega)⟩
   rw [← hs3]
   clear hs3
   have hds3 := hZ hds3
   have hS2 := hS.turned q (fun e => e)
   refine hK.out _ _ hS2 ?_
   clear hK K
   have TX := hZ (TX.out.and_ q)
   clear q hS
   have hS := hS2
   clear hS2
   (try simp only [Act.put, zA, zB, zC])
   have hbz : (s2 ++ s3).size ≤ 3 + 22 + 22 := by rw [ByteArray.size_append]; omega
   (refine wpSegs_take (v := ?_) hS rfl (fun w' hw => ?_) ?_; rotate_left; (obtain ⟨x0, x1, x2, x3, x4, x5, x6⟩ := Blk.cells7 hw; go_simp; (try rw [if_neg (by omega)]); try with_reducible rfl); (try simp only [Act.put, zA, zB, zC]))
   obtain ⟨s4, hs4⟩ : ∃ s4, s2 ++ s3 = s4 := ⟨_, rfl⟩
   rw [hs4]
   have hzs4 : s4.size ≤ 3 + 22 + 22 := by rw [← hs4]; exact hbz
   have hds4 := hZ (show s4.data.toList = (([32, 111, 107] ++ (32 :: Lib.itoa id)) ++ (32 :: Lib.itoa dy)) from by rw [← hs4, bapp, hds2.out, hds3.out])
   clear hs4 hbz
   (refine wpSegs_take (v := ?_) hS rfl (fun w' hw => ?_) ?_; rotate_left; (obtain ⟨x0, x1, x2, x3, x4, x5, x6⟩ := Blk.cells7 hw; go_simp; (try rw [if_neg (by omega)]); try with_reducible rfl); (try simp only [Act.put, zA, zB, zC]))
   refine wpSegs_nil ?_
   have hds := hZ (show s4.data.toList = each32 [[111, 107], Lib.itoa id, Lib.itoa dy] from by rw [hds4.out]; simp [each32])
   have hzs : s4.size ≤ 47 := by omega
   clear hds4 hds2 hds1 hds3
   generalize s4 = s at *
   have BT2 := hZ hS
   obtain ⟨x0, x1, x2, x3, x4, x5, x6⟩ := hS.cells7
   clear hS
   go_upto_if 28 with fail
   generalize hem0 : str.toList.isEmpty = em at *
   have hem := hZ hem0
   clear hem0
   go_cut [3] from 29 to 35 (fun v wc => ∃ s9 : ByteArray, v = .string s9 ∧ s9.data.toList = each32 [[111, 107], Lib.itoa id, Lib.itoa dy, if cd = [] then [45] else cd] ∧ s9.size ≤ 60 ∧ Blk wc bt 42 #[.int .i64 er, .int .i64 id, .int .i64 dy, .string str, .int .u8 st, .slice LA Ln Lc, .slice UA Un Uc] ∧ Turned (fun _ => False) w wc)
   case first =>
    cases em with
    | true =>
     have hcd : cd = [] := by have := hem.out; rw [hsl.out] at this; exact List.isEmpty_iff.1 this
     have hce := hZ (show (if cd = [] then [45] else cd) = [45] from if_pos hcd)
     clear hcd
     have hbz : (s ++ (⟨#[32, 45]⟩ : ByteArray)).size ≤ 49 := by rw [ByteArray.size_append]; have := (show (⟨#[32, 45]⟩ : ByteArray).size = 2 from rfl); omega
     go_wp2_with fail
     go_meet
     refine ⟨_, rfl, ?_, by omega, BT2.out, TX.out⟩
     rw [hce.out, bapp, hds.out]
     simp [each32]
    | false =>
     have hcd : cd ≠ [] := by have := hem.out; rw [hsl.out] at this; rintro rfl; cases this
     have hce := hZ (show (if cd = [] then [45] else cd) = cd from if_neg hcd)
     clear hcd
     have hbz : (s ++ (⟨#[32]⟩ : ByteArray)).size = s.size + 1 := by rw [ByteArray.size_append]; rfl
     have hbz2 : (s ++ (⟨#[32]⟩ : ByteArray) ++ str).size ≤ 60 := by rw [ByteArray.size_append, hbz]; omega
     go_wp2_with fail
     go_meet
     refine ⟨_, rfl, ?_, hbz2, BT2.out, TX.out⟩
     rw [hce.out, bapp, bapp, hds.out, hsd.out]
     simp [each32]
   case rest =>
    obtain ⟨s9, rfl, hd90, hz9, hB, hT⟩ := hcut
    have hd9 := hZ hd90
    clear hd90 hds hzs BT2 TX x0 x1 x2 x3 x4 x5 x6
    have BT3 := hZ hB
    have T3 := hZ hT
    clear hB hT
    generalize hcw : (if cd = [] then [45] else cd) = cw at *
    have hcwh := hZ hcw
    clear hcw
    obtain ⟨x0, x1, x2, x3, x4, x5, x6⟩ := BT3.out.cells7
    go_wp2_with fail
    refine (rtext32_any st _ (by unfold I64; omega)).mono ?_
    rintro e W4 ⟨rfl, q⟩
    have T4 := hZ (T3.out.and_ q)
    have BT4 := hZ (BT3.out.turned q (fun e => e))
    clear q T3 BT3 x0 x1 x2 x3 x4 x5 x6
    obtain ⟨s8, h8, hd80, hz8⟩ : ∃ s8 : ByteArray, s8 = ⟨(32 :: Lib.itoa st).toArray⟩ ∧ s8.data.toList = 32 :: Lib.itoa st ∧ s8.size ≤ 22 := ⟨_, rfl, by simp, bz_le (by have := itoa_len st (by unfold I64; omega); simp only [List.length_cons]; omega)⟩
    rw [← h8]
    have hd8 := hZ hd80
    clear h8 hd80
    have hbz : (s9 ++ s8).size ≤ 82 := by rw [ByteArray.size_append]; omega
    obtain ⟨x0, x1, x2, x3, x4, x5, x6⟩ := BT4.out.cells7
    go_wp2_with fail
    clear x0 x1 x2 x3 x4 x5 x6
    obtain ⟨ws6, hws6⟩ : ∃ ws6 : WS, ws6 = [[111, 107], Lib.itoa id, Lib.itoa dy, cw, Lib.itoa st] := ⟨_, rfl⟩
    have hws6h := hZ hws6
    clear hws6
    have hst1 := hZ (show RtRel 42 Ln w bt #[.int .i64 er, .int .i64 id, .int .i64 dy, .string str, .int .u8 st, .slice LA Ln Lc, .slice UA Un Uc] (fun j => each32 (ws6 ++ (lots.take j).flatMap lotW)) 82 200 (.string (s9 ++ s8)) (.int .i64 0) W4 from ⟨0, _, Nat.zero_le _, rfl, rfl, by rw [bapp, hd9.out, hd8.out, hws6h.out]; simp [each32], hbz, BT4.out, T4.out⟩)
    clear BT4 T4 hd9 hd8 hz9 hz8 hbz
    generalize s9 ++ s8 = s7 at *
    go_loopw [3, 4] (fun v i wr => RtRel 42 Ln w bt #[.int .i64 er, .int .i64 id, .int .i64 dy, .string str, .int .u8 st, .slice LA Ln Lc, .slice UA Un Uc] (fun j => each32 (ws6 ++ (lots.take j).flatMap lotW)) 82 200 v i wr) (fun _ i _ => Ln - (intOf i).toNat)
    case atStart => exact hst1.out
    case round =>
     obtain ⟨j, s, hj, rfl, rfl, hd0, hz0, hB0, hT0⟩ := hrel
     clear hst1
     have hds := hZ (show s.data.toList = each32 (ws6 ++ (lots.take j).flatMap lotW) from hd0)
     have BT1 := hZ hB0
     have T1 := hZ hT0
     clear hd0 hB0 hT0
     by_cases hlt : j < Ln
     ·have hji : (j : Int) < (Ln : Int) := by omega
      obtain ⟨bl, off, hA, hc⟩ := SlL.cells (SlE.fresh hL.out T1.out : SlL wr ⟨LA, Ln, Lc⟩ lots) (show 0 < Ln by omega)
      simp only at hA
      subst hA
      obtain ⟨q0, q1, q2, q3, q4, q5⟩ := hc j hlt
      have hjl := hZ (show j < lots.length by rw [hl1'.out]; exact hlt)
      have hm := hZ (flat_take lotW lots LotV.zero j hjl.out)
      have hmem : lots.getD j LotV.zero ∈ lots := by rw [List.getD_eq_getElem?_getD, List.getElem?_eq_getElem hjl.out]; exact List.getElem_mem hjl.out
      have hLo := hLk.out _ hmem
      have hci := lot_item (hlb.out _ hmem)
      obtain ⟨o0, o1, o2, o3, o4⟩ := hLo
      have hj3 : j < 300 := by have h1 := hb4.out.1; have h2 := hjl.out; (try simp only at h1); omega
      clear hc hmem
      generalize lots.getD j LotV.zero = L at *
      obtain ⟨l0, l1, l2, l3, l4, l5⟩ := L
      simp only at q0 q1 q2 q3 q4 q5 o0 o1 o2 o3 o4 hci
      have hs1d := hZ (show (⟨l1.toArray⟩ : ByteArray).data.toList = l1 from by simp)
      have hs1z : (⟨l1.toArray⟩ : ByteArray).size ≤ 12 := bz_le hci
      generalize (⟨l1.toArray⟩ : ByteArray) = str1 at *
      obtain ⟨x0, x1, x2, x3, x4, x5, x6⟩ := BT1.out.cells7
      go_upto_region 14 with fail
      have tb := (Turned.refl (fun _ => False) wr).alloc (.cells #[.int .i64 l0, .string str1, .int .i64 l2, .int .i64 l3, .int .i64 l4, .bool l5] 60)
      have BL2 := hZ (Blk.new wr 60 #[.int .i64 l0, .string str1, .int .i64 l2, .int .i64 l3, .int .i64 l4, .bool l5])
      have T2 := hZ (T1.out.and_ tb)
      have BT2 := hZ (BT1.out.turned tb (fun e => e))
      obtain ⟨W2, hW2⟩ : ∃ W2, W2 = wr.alloc (.cells #[.int .i64 l0, .string str1, .int .i64 l2, .int .i64 l3, .int .i64 l4, .bool l5] 60) := ⟨_, rfl⟩
      rw [← hW2] at BL2 T2 BT2 ⊢
      clear hW2
      obtain ⟨bo, hbo⟩ : ∃ bo, wr.heap.size = bo := ⟨_, rfl⟩
      rw [hbo] at BL2 ⊢
      clear hbo BT1 T1 tb q0 q1 q2 q3 q4 q5 x0 x1 x2 x3 x4 x5 x6
      have hdstr1 := hs1d
      refine wp_region_segs (fun w' => Blk w' bo 60 #[.int .i64 l0, .string str1, .int .i64 l2, .int .i64 l3, .int .i64 l4, .bool l5]) (segT [0, 1, 2, 3, 7, 8, 10, 11, 12, 15, 16, 17, 21, 22] ++ segF [4] ++ segT [5, 6, 9] ++ segF [13] ++ segT [14] ++ segF [18] ++ segT [19, 20] ++ segF [23] ++ segT [24, 25]) mixed (by kernel_rfl) (fun _ _ _ _ _ h => h) ?_
      simp only [segT, segF, pickSegs, zF, List.map_nil, zG, zH, List.filterMap_cons, List.filterMap_nil, zI, zJ, Option.map_some]
      have q := (Turned.refl (fun _ => False) W2).drew
      have hS : Blk W2.drew bo 60 #[.int .i64 l0, .string str1, .int .i64 l2, .int .i64 l3, .int .i64 l4, .bool l5] := BL2.out.drew
      have TX := hZ (T2.out.and_ q)
      have BT3 := hZ (BT2.out.turned q (fun e => e))
      clear q T2 BT2 BL2
      generalize W2.drew = W3 at *
      (refine wpSegs_take (v := ?_) hS rfl (fun w' hw => ?_) ?_; rotate_left; (obtain ⟨c0, c1, c2, c3, c4, c5⟩ := Blk.cells6 hw; go_simp; (try rw [if_neg (by omega)]); try with_reducible rfl); (try simp only [Act.put, zA, zB, zC]))
      have hbz : (s ++ (⟨#[32, 108, 111, 116]⟩ : ByteArray)).size ≤ 82 + 200 * j + 4 := by rw [ByteArray.size_append]; have := (show (⟨#[32, 108, 111, 116]⟩ : ByteArray).size = 4 from rfl); omega
      (refine wpSegs_take (v := ?_) hS rfl (fun w' hw => ?_) ?_; rotate_left; (obtain ⟨c0, c1, c2, c3, c4, c5⟩ := Blk.cells6 hw; go_simp; (try rw [if_neg (by omega)]); try with_reducible rfl); (try simp only [Act.put, zA, zB, zC]))
      obtain ⟨s5, hs5⟩ : ∃ s5, s ++ (⟨#[32, 108, 111, 116]⟩ : ByteArray) = s5 := ⟨_, rfl⟩
      rw [hs5]
      have hzs5 : s5.size ≤ 82 + 200 * j + 4 := by rw [← hs5]; exact hbz
      have hds5 := hZ (show s5.data.toList = (s.data.toList ++ [32, 108, 111, 116]) from by rw [← hs5, bapp])
      clear hs5 hbz
      iterate 12 (refine wpSegs_take (v := ?_) hS rfl (fun w' hw => ?_) ?_; rotate_left; (obtain ⟨c0, c1, c2, c3, c4, c5⟩ := Blk.cells6 hw; go_simp; (try rw [if_neg (by omega)]); try with_reducible rfl); (try simp only [Act.put, zA, zB, zC]))
      refine wpSegs_run rfl (fun K hK => ?_)
      go_simp
      refine (rtext32_any l0 _ o0).mono ?_
      rintro e vs6 ⟨rfl, q⟩
      obtain ⟨s6, hs6, hds6, hzs6⟩ : ∃ s6 : ByteArray, s6 = ⟨(32 :: Lib.itoa l0).toArray⟩ ∧ s6.data.toList = 32 :: Lib.itoa l0 ∧ s6.size ≤ 22 := ⟨_, rfl, by simp, bz_le (by have := itoa_len l0 o0; simp only [List.length_cons]; omega)⟩
      rw [← hs6]
      clear hs6
      have hds6 := hZ hds6
      have hS2 := hS.turned q (fun e => e)
      refine hK.out _ _ hS2 ?_
      clear hK K
      have TX := hZ (TX.out.and_ q)
      have BT3 := hZ (BT3.out.turned q (fun e => e))
      clear q hS
      have hS := hS2
      clear hS2
      (try simp only [Act.put, zA, zB, zC])
      have hbz : (s5 ++ s6).size ≤ 82 + 200 * j + 4 + 22 := by rw [ByteArray.size_append]; omega
      (refine wpSegs_take (v := ?_) hS rfl (fun w' hw => ?_) ?_; rotate_left; (obtain ⟨c0, c1, c2, c3, c4, c5⟩ := Blk.cells6 hw; go_simp; (try rw [if_neg (by omega)]); try with_reducible rfl); (try simp only [Act.put, zA, zB, zC]))
      obtain ⟨s7, hs7⟩ : ∃ s7, s5 ++ s6 = s7 := ⟨_, rfl⟩
      rw [hs7]
      have hzs7 : s7.size ≤ 82 + 200 * j + 4 + 22 := by rw [← hs7]; exact hbz
      have hds7 := hZ (show s7.data.toList = ((s.data.toList ++ [32, 108, 111, 116]) ++ (32 :: Lib.itoa l0)) from by rw [← hs7, bapp, hds5.out, hds6.out])
      clear hs7 hbz
      have hbz : (s7 ++ (⟨#[32]⟩ : ByteArray)).size ≤ 82 + 200 * j + 4 + 22 + 1 := by rw [ByteArray.size_append]; have := (show (⟨#[32]⟩ : ByteArray).size = 1 from rfl); omega
      (refine wpSegs_take (v := ?_) hS rfl (fun w' hw => ?_) ?_; rotate_left; (obtain ⟨c0, c1, c2, c3, c4, c5⟩ := Blk.cells6 hw; go_simp; (try rw [if_neg (by omega)]); try with_reducible rfl); (try simp only [Act.put, zA, zB, zC]))
      obtain ⟨s8, hs8⟩ : ∃ s8, s7 ++ (⟨#[32]⟩ : ByteArray) = s8 := ⟨_, rfl⟩
      rw [hs8]
      have hzs8 : s8.size ≤ 82 + 200 * j + 4 + 22 + 1 := by rw [← hs8]; exact hbz
      have hds8 := hZ (show s8.data.toList = (((s.data.toList ++ [32, 108, 111, 116]) ++ (32 :: Lib.itoa l0)) ++ [32]) from by rw [← hs8, bapp, hds7.out])
      clear hs8 hbz
      have hbz : (s8 ++ str1).size ≤ 82 + 200 * j + 4 + 22 + 1 + 12 := by rw [ByteArray.size_append]; omega
      (refine wpSegs_take (v := ?_) hS rfl (fun w' hw => ?_) ?_; rotate_left; (obtain ⟨c0, c1, c2, c3, c4, c5⟩ := Blk.cells6 hw; go_simp; (try rw [if_neg (by omega)]); try with_reducible rfl); (try simp only [Act.put, zA, zB, zC]))
      obtain ⟨s9, hs9⟩ : ∃ s9, s8 ++ str1 = s9 := ⟨_, rfl⟩
      rw [hs9]
      have hzs9 : s9.size ≤ 82 + 200 * j + 4 + 22 + 1 + 12 := by rw [← hs9]; exact hbz
      have hds9 := hZ (show s9.data.toList = ((((s.data.toList ++ [32, 108, 111, 116]) ++ (32 :: Lib.itoa l0)) ++ [32]) ++ str1.data.toList) from by rw [← hs9, bapp, hds8.out])
      clear hs9 hbz
      refine wpSegs_run rfl (fun K hK => ?_)
      go_simp
      refine (rtext32_any l2 _ o2).mono ?_
      rintro e vs10 ⟨rfl, q⟩
      obtain ⟨s10, hs10, hds10, hzs10⟩ : ∃ s10 : ByteArray, s10 = ⟨(32 :: Lib.itoa l2).toArray⟩ ∧ s10.data.toList = 32 :: Lib.itoa l2 ∧ s10.size ≤ 22 := ⟨_, rfl, by simp, bz_le (by have := itoa_len l2 o2; simp only [List.length_cons]; omega)⟩
      rw [← hs10]
      clear hs10
      have hds10 := hZ hds10
      have hS2 := hS.turned q (fun e => e)
      refine hK.out _ _ hS2 ?_
      clear hK K
      have TX := hZ (TX.out.and_ q)
      have BT3 := hZ (BT3.out.turned q (fun e => e))
      clear q hS
      have hS := hS2
      clear hS2
      (try simp only [Act.put, zA, zB, zC])
      have hbz : (s9 ++ s10).size ≤ 82 + 200 * j + 4 + 22 + 1 + 12 + 22 := by rw [ByteArray.size_append]; omega
      (refine wpSegs_take (v := ?_) hS rfl (fun w' hw => ?_) ?_; rotate_left; (obtain ⟨c0, c1, c2, c3, c4, c5⟩ := Blk.cells6 hw; go_simp; (try rw [if_neg (by omega)]); try with_reducible rfl); (try simp only [Act.put, zA, zB, zC]))
      obtain ⟨s11, hs11⟩ : ∃ s11, s9 ++ s10 = s11 := ⟨_, rfl⟩
      rw [hs11]
      have hzs11 : s11.size ≤ 82 + 200 * j + 4 + 22 + 1 + 12 + 22 := by rw [← hs11]; exact hbz
      have hds11 := hZ (show s11.data.toList = (((((s.data.toList ++ [32, 108, 111, 116]) ++ (32 :: Lib.itoa l0)) ++ [32]) ++ str1.data.toList) ++ (32 :: Lib.itoa l2)) from by rw [← hs11, bapp, hds9.out, hds10.out])
      clear hs11 hbz
      refine wpSegs_run rfl (fun K hK => ?_)
      go_simp
      refine (rtext32_any l3 _ o3).mono ?_
      rintro e vs12 ⟨rfl, q⟩
      obtain ⟨s12, hs12, hds12, hzs12⟩ : ∃ s12 : ByteArray, s12 = ⟨(32 :: Lib.itoa l3).toArray⟩ ∧ s12.data.toList = 32 :: Lib.itoa l3 ∧ s12.size ≤ 22 := ⟨_, rfl, by simp, bz_le (by have := itoa_len l3 o3; simp only [List.length_cons]; omega)⟩
      rw [← hs12]
      clear hs12
      have hds12 := hZ hds12
      have hS2 := hS.turned q (fun e => e)
      refine hK.out _ _ hS2 ?_
      clear hK K
      have TX := hZ (TX.out.and_ q)
      have BT3 := hZ (BT3.out.turned q (fun e => e))
      clear q hS
      have hS := hS2
      clear hS2
      (try simp only [Act.put, zA, zB, zC])
      have hbz : (s11 ++ s12).size ≤ 82 + 200 * j + 4 + 22 + 1 + 12 + 22 + 22 := by rw [ByteArray.size_append]; omega
      (refine wpSegs_take (v := ?_) hS rfl (fun w' hw => ?_) ?_; rotate_left; (obtain ⟨c0, c1, c2, c3, c4, c5⟩ := Blk.cells6 hw; go_simp; (try rw [if_neg (by omega)]); try with_reducible rfl); (try simp only [Act.put, zA, zB, zC]))
      obtain ⟨s13, hs13⟩ : ∃ s13, s11 ++ s12 = s13 := ⟨_, rfl⟩
      rw [hs13]
      have hzs13 : s13.size ≤ 82 + 200 * j + 4 + 22 + 1 + 12 + 22 + 22 := by rw [← hs13]; exact hbz
      have hds13 := hZ (show s13.data.toList = ((((((s.data.toList ++ [32, 108, 111, 116]) ++ (32 :: Lib.itoa l0)) ++ [32]) ++ str1.data.toList) ++ (32 :: Lib.itoa l2)) ++ (32 :: Lib.itoa l3)) from by rw [← hs13, bapp, hds11.out, hds12.out])
      clear hs13 hbz
      have hbz : (s13 ++ (⟨#[32]⟩ : ByteArray)).size ≤ 82 + 200 * j + 4 + 22 + 1 + 12 + 22 + 22 + 1 := by rw [ByteArray.size_append]; have := (show (⟨#[32]⟩ : ByteArray).size = 1 from rfl); omega
      (refine wpSegs_take (v := ?_) hS rfl (fun w' hw => ?_) ?_; rotate_left; (obtain ⟨c0, c1, c2, c3, c4, c5⟩ := Blk.cells6 hw; go_simp; (try rw [if_neg (by omega)]); try with_reducible rfl); (try simp only [Act.put, zA, zB, zC]))
      obtain ⟨s14, hs14⟩ : ∃ s14, s13 ++ (⟨#[32]⟩ : ByteArray) = s14 := ⟨_, rfl⟩
      rw [hs14]
      have hzs14 : s14.size ≤ 82 + 200 * j + 4 + 22 + 1 + 12 + 22 + 22 + 1 := by rw [← hs14]; exact hbz
      have hds14 := hZ (show s14.data.toList = (((((((s.data.toList ++ [32, 108, 111, 116]) ++ (32 :: Lib.itoa l0)) ++ [32]) ++ str1.data.toList) ++ (32 :: Lib.itoa l2)) ++ (32 :: Lib.itoa l3)) ++ [32]) from by rw [← hs14, bapp, hds13.out])
      clear hs14 hbz
      refine wpSegs_run rfl (fun K hK => ?_)
      go_simp
      refine (rtext_any l4 _ o4).mono ?_
      rintro e vs15 ⟨rfl, q⟩
      obtain ⟨s15, hs15, hds15, hzs15⟩ : ∃ s15 : ByteArray, s15 = ⟨(Lib.itoa l4).toArray⟩ ∧ s15.data.toList = Lib.itoa l4 ∧ s15.size ≤ 21 := ⟨_, rfl, by simp, bz_le (itoa_len l4 o4)⟩
      rw [← hs15]
      clear hs15
      have hds15 := hZ hds15
      have hS2 := hS.turned q (fun e => e)
      refine hK.out _ _ hS2 ?_
      clear hK K
      have TX := hZ (TX.out.and_ q)
      have BT3 := hZ (BT3.out.turned q (fun e => e))
      clear q hS
      have hS := hS2
      clear hS2
      (try simp only [Act.put, zA, zB, zC])
      have hbz : (s14 ++ s15).size ≤ 82 + 200 * j + 4 + 22 + 1 + 12 + 22 + 22 + 1 + 21 := by rw [ByteArray.size_append]; omega
      (refine wpSegs_take (v := ?_) hS rfl (fun w' hw => ?_) ?_; rotate_left; (obtain ⟨c0, c1, c2, c3, c4, c5⟩ := Blk.cells6 hw; go_simp; (try rw [if_neg (by omega)]); try with_reducible rfl); (try simp only [Act.put, zA, zB, zC]))
      obtain ⟨s16, hs16⟩ : ∃ s16, s14 ++ s15 = s16 := ⟨_, rfl⟩
      rw [hs16]
      have hzs16 : s16.size ≤ 82 + 200 * j + 4 + 22 + 1 + 12 + 22 + 22 + 1 + 21 := by rw [← hs16]; exact hbz
      have hds16 := hZ (show s16.data.toList = ((((((((s.data.toList ++ [32, 108, 111, 116]) ++ (32 :: Lib.itoa l0)) ++ [32]) ++ str1.data.toList) ++ (32 :: Lib.itoa l2)) ++ (32 :: Lib.itoa l3)) ++ [32]) ++ (Lib.itoa l4)) from by rw [← hs16, bapp, hds14.out, hds15.out])
      clear hs16 hbz
      (refine wpSegs_take (v := ?_) hS rfl (fun w' hw => ?_) ?_; rotate_left; (obtain ⟨c0, c1, c2, c3, c4, c5⟩ := Blk.cells6 hw; go_simp; (try rw [if_neg (by omega)]); try with_reducible rfl); (try simp only [Act.put, zA, zB, zC]))
      refine wpSegs_nil ?_
      have hd8 := hZ (show s16.data.toList = each32 (ws6 ++ (lots.take j).flatMap lotW) ++ each32 [[108, 111, 116], Lib.itoa l0, l1, Lib.itoa l2, Lib.itoa l3, Lib.itoa l4] from by rw [hds16.out, hds.out, hs1d.out]; simp [each32])
      have hz8 : s16.size ≤ 82 + 200 * j + 110 := by omega
      clear hds hds5 hds7 hds8 hds9 hds11 hds13 hds14 hds16 hds6 hds10 hds12 hds15
      generalize s16 = t8 at *
      obtain ⟨c0, c1, c2, c3, c4, c5⟩ := hS.cells6
      have BL3 := hZ hS
      clear hS
      cases l5 with
      | false =>
       have hbz : (t8 ++ (⟨#[32, 48]⟩ : ByteArray)).size ≤ 82 + 200 * j + 112 := by rw [ByteArray.size_append]; have := (show (⟨#[32, 48]⟩ : ByteArray).size = 2 from rfl); omega
       go_wp2_with fail
       go_roundw
       case rel => exact ⟨j + 1, _, hlt, by go_num, rfl, by show (t8 ++ (⟨#[32, 48]⟩ : ByteArray)).data.toList = each32 (ws6 ++ (lots.take (j + 1)).flatMap lotW); rw [hm.out, bapp, hd8.out, ← List.append_assoc ws6, each32_append (ws6 ++ (lots.take j).flatMap lotW), List.append_assoc]; simp [each32, lotW, itoa_zero9], by omega, BT3.out, TX.out⟩
       case measure => simp [intOf] <;> omega
      | true =>
       have hbz : (t8 ++ (⟨#[32, 49]⟩ : ByteArray)).size ≤ 82 + 200 * j + 112 := by rw [ByteArray.size_append]; have := (show (⟨#[32, 49]⟩ : ByteArray).size = 2 from rfl); omega
       go_wp2_with fail
       go_roundw
       case rel => exact ⟨j + 1, _, hlt, by go_num, rfl, by show (t8 ++ (⟨#[32, 49]⟩ : ByteArray)).data.toList = each32 (ws6 ++ (lots.take (j + 1)).flatMap lotW); rw [hm.out, bapp, hd8.out, ← List.append_assoc ws6, each32_append (ws6 ++ (lots.take j).flatMap lotW), List.append_assoc]; simp [each32, lotW, itoa_one9], by omega, BT3.out, TX.out⟩
       case measure => simp [intOf] <;> omega
     ·have hge : (Ln : Int) ≤ (j : Int) := by omega
      have hws7 := hZ (show ws6 ++ (lots.take j).flatMap lotW = ws6 ++ lots.flatMap lotW from by rw [List.take_of_length_le (by rw [hl1'.out]; omega)])
      obtain ⟨ws7, hws7h⟩ : ∃ ws7, ws7 = ws6 ++ lots.flatMap lotW := ⟨_, rfl⟩
      have hj3 : j ≤ 300 := by have h1 := hb4.out.1; have h2 := hl1'.out; (try simp only at h1); omega
      have hzs : s.size ≤ 82 + 200 * 300 := by omega
      rw [hws7.out, ← hws7h] at hds
      have hws7k := hZ hws7h
      clear hws7h hws7
      obtain ⟨x0, x1, x2, x3, x4, x5, x6⟩ := BT1.out.cells7
      go_wp2_with fail
      clear x0 x1 x2 x3 x4 x5 x6
      have hst2 := hZ (show RtRel 42 Un w bt #[.int .i64 er, .int .i64 id, .int .i64 dy, .string str, .int .u8 st, .slice LA Ln Lc, .slice UA Un Uc] (fun j => each32 (ws7 ++ (uses.take j).flatMap useW)) 60082 200 (.string s) (.int .i64 0) wr from ⟨0, _, Nat.zero_le _, rfl, rfl, by rw [hds.out]; simp, hzs, BT1.out, T1.out⟩)
      clear BT1 T1 hds hz0 hzs
      go_loopw [3, 6] (fun v i wr => RtRel 42 Un w bt #[.int .i64 er, .int .i64 id, .int .i64 dy, .string str, .int .u8 st, .slice LA Ln Lc, .slice UA Un Uc] (fun j => each32 (ws7 ++ (uses.take j).flatMap useW)) 60082 200 v i wr) (fun _ i _ => Un - (intOf i).toNat)
      case atStart => exact hst2.out
      case round =>
       obtain ⟨j2, s, hj2, rfl, rfl, hd0, hz0, hB0, hT0⟩ := hrel
       clear hst2
       have hds := hZ (show s.data.toList = each32 (ws7 ++ (uses.take j2).flatMap useW) from hd0)
       have BT1 := hZ hB0
       have T1 := hZ hT0
       clear hd0 hB0 hT0
       by_cases hlt2 : j2 < Un
       ·have hji2 : (j2 : Int) < (Un : Int) := by omega
        obtain ⟨bl, off, hA, hc⟩ := SlU.cells (SlE.fresh hU.out T1.out : SlU wr ⟨UA, Un, Uc⟩ uses) (show 0 < Un by omega)
        simp only at hA
        subst hA
        obtain ⟨q0, q1, q2⟩ := hc j2 hlt2
        have hjl := hZ (show j2 < uses.length by rw [hl2'.out]; exact hlt2)
        have hm := hZ (flat_take useW uses UseV.zero j2 hjl.out)
        have hLo := hUk.out (uses.getD j2 UseV.zero) (by rw [List.getD_eq_getElem?_getD, List.getElem?_eq_getElem hjl.out]; exact List.getElem_mem hjl.out)
        obtain ⟨o0, o1, o2⟩ := hLo
        have hj4 : j2 < 2000 := by have h1 := hb4.out.2; have h2 := hjl.out; (try simp only at h1); omega
        clear hc
        generalize uses.getD j2 UseV.zero = L at *
        obtain ⟨l0, l1, l2⟩ := L
        simp only at q0 q1 q2 o0 o1 o2
        obtain ⟨x0, x1, x2, x3, x4, x5, x6⟩ := BT1.out.cells7
        go_upto_region 22 with fail
        have tb := (Turned.refl (fun _ => False) wr).alloc (.cells #[.int .i64 l0, .int .i64 l1, .int .i64 l2] 64)
        have BL2 := hZ (Blk.new wr 64 #[.int .i64 l0, .int .i64 l1, .int .i64 l2])
        have T2 := hZ (T1.out.and_ tb)
        have BT2 := hZ (BT1.out.turned tb (fun e => e))
        obtain ⟨W2, hW2⟩ : ∃ W2, W2 = wr.alloc (.cells #[.int .i64 l0, .int .i64 l1, .int .i64 l2] 64) := ⟨_, rfl⟩
        rw [← hW2] at BL2 T2 BT2 ⊢
        clear hW2
        obtain ⟨bo, hbo⟩ : ∃ bo, wr.heap.size = bo := ⟨_, rfl⟩
        rw [hbo] at BL2 ⊢
        clear hbo BT1 T1 tb q0 q1 q2 x0 x1 x2 x3 x4 x5 x6
        refine wp_region_segs (fun w' => Blk w' bo 64 #[.int .i64 l0, .int .i64 l1, .int .i64 l2]) (segT [0, 1, 2, 3, 6, 7, 11, 12] ++ segF [4] ++ segT [5] ++ segF [8] ++ segT [9, 10] ++ segF [13] ++ segT [14, 15]) mixed (by kernel_rfl) (fun _ _ _ _ _ h => h) ?_
        simp only [segT, segF, pickSegs, zF, List.map_nil, zG, zH, List.filterMap_cons, List.filterMap_nil, zI, zJ, Option.map_some]
        have q := (Turned.refl (fun _ => False) W2).drew
        have hS : Blk W2.drew bo 64 #[.int .i64 l0, .int .i64 l1, .int .i64 l2] := BL2.out.drew
        have TX := hZ (T2.out.and_ q)
        have BT3 := hZ (BT2.out.turned q (fun e => e))
        clear q T2 BT2 BL2
        generalize W2.drew = W3 at *
        (refine wpSegs_take (v := ?_) hS rfl (fun w' hw => ?_) ?_; rotate_left; (obtain ⟨c0, c1, c2⟩ := Blk.cells3 hw; go_simp; (try rw [if_neg (by omega)]); try with_reducible rfl); (try simp only [Act.put, zA, zB, zC]))
        have hbz : (s ++ (⟨#[32, 117, 115, 101]⟩ : ByteArray)).size ≤ 60082 + 200 * j2 + 4 := by rw [ByteArray.size_append]; have := (show (⟨#[32, 117, 115, 101]⟩ : ByteArray).size = 4 from rfl); omega
        (refine wpSegs_take (v := ?_) hS rfl (fun w' hw => ?_) ?_; rotate_left; (obtain ⟨c0, c1, c2⟩ := Blk.cells3 hw; go_simp; (try rw [if_neg (by omega)]); try with_reducible rfl); (try simp only [Act.put, zA, zB, zC]))
        obtain ⟨s17, hs17⟩ : ∃ s17, s ++ (⟨#[32, 117, 115, 101]⟩ : ByteArray) = s17 := ⟨_, rfl⟩
        rw [hs17]
        have hzs17 : s17.size ≤ 60082 + 200 * j2 + 4 := by rw [← hs17]; exact hbz
        have hds17 := hZ (show s17.data.toList = (s.data.toList ++ [32, 117, 115, 101]) from by rw [← hs17, bapp])
        clear hs17 hbz
        iterate 6 (refine wpSegs_take (v := ?_) hS rfl (fun w' hw => ?_) ?_; rotate_left; (obtain ⟨c0, c1, c2⟩ := Blk.cells3 hw; go_simp; (try rw [if_neg (by omega)]); try with_reducible rfl); (try simp only [Act.put, zA, zB, zC]))
        refine wpSegs_run rfl (fun K hK => ?_)
        go_simp
        refine (rtext32_any l0 _ o0).mono ?_
        rintro e vs18 ⟨rfl, q⟩
        obtain ⟨s18, hs18, hds18, hzs18⟩ : ∃ s18 : ByteArray, s18 = ⟨(32 :: Lib.itoa l0).toArray⟩ ∧ s18.data.toList = 32 :: Lib.itoa l0 ∧ s18.size ≤ 22 := ⟨_, rfl, by simp, bz_le (by have := itoa_len l0 o0; simp only [List.length_cons]; omega)⟩
        rw [← hs18]
        clear hs18
        have hds18 := hZ hds18
        have hS2 := hS.turned q (fun e => e)
        refine hK.out _ _ hS2 ?_
        clear hK K
        have TX := hZ (TX.out.and_ q)
        have BT3 := hZ (BT3.out.turned q (fun e => e))
        clear q hS
        have hS := hS2
        clear hS2
        (try simp only [Act.put, zA, zB, zC])
        have hbz : (s17 ++ s18).size ≤ 60082 + 200 * j2 + 4 + 22 := by rw [ByteArray.size_append]; omega
        (refine wpSegs_take (v := ?_) hS rfl (fun w' hw => ?_) ?_; rotate_left; (obtain ⟨c0, c1, c2⟩ := Blk.cells3 hw; go_simp; (try rw [if_neg (by omega)]); try with_reducible rfl); (try simp only [Act.put, zA, zB, zC]))
        obtain ⟨s19, hs19⟩ : ∃ s19, s17 ++ s18 = s19 := ⟨_, rfl⟩
        rw [hs19]
        have hzs19 : s19.size ≤ 60082 + 200 * j2 + 4 + 22 := by rw [← hs19]; exact hbz
        have hds19 := hZ (show s19.data.toList = ((s.data.toList ++ [32, 117, 115, 101]) ++ (32 :: Lib.itoa l0)) from by rw [← hs19, bapp, hds17.out, hds18.out])
        clear hs19 hbz
        refine wpSegs_run rfl (fun K hK => ?_)
        go_simp
        refine (rtext32_any l1 _ o1).mono ?_
        rintro e vs20 ⟨rfl, q⟩
        obtain ⟨s20, hs20, hds20, hzs20⟩ : ∃ s20 : ByteArray, s20 = ⟨(32 :: Lib.itoa l1).toArray⟩ ∧ s20.data.toList = 32 :: Lib.itoa l1 ∧ s20.size ≤ 22 := ⟨_, rfl, by simp, bz_le (by have := itoa_len l1 o1; simp only [List.length_cons]; omega)⟩
        rw [← hs20]
        clear hs20
        have hds20 := hZ hds20
        have hS2 := hS.turned q (fun e => e)
        refine hK.out _ _ hS2 ?_
        clear hK K
        have TX := hZ (TX.out.and_ q)
        have BT3 := hZ (BT3.out.turned q (fun e => e))
        clear q hS
        have hS := hS2
        clear hS2
        (try simp only [Act.put, zA, zB, zC])
        have hbz : (s19 ++ s20).size ≤ 60082 + 200 * j2 + 4 + 22 + 22 := by rw [ByteArray.size_append]; omega
        (refine wpSegs_take (v := ?_) hS rfl (fun w' hw => ?_) ?_; rotate_left; (obtain ⟨c0, c1, c2⟩ := Blk.cells3 hw; go_simp; (try rw [if_neg (by omega)]); try with_reducible rfl); (try simp only [Act.put, zA, zB, zC]))
        obtain ⟨s21, hs21⟩ : ∃ s21, s19 ++ s20 = s21 := ⟨_, rfl⟩
        rw [hs21]
        have hzs21 : s21.size ≤ 60082 + 200 * j2 + 4 + 22 + 22 := by rw [← hs21]; exact hbz
        have hds21 := hZ (show s21.data.toList = (((s.data.toList ++ [32, 117, 115, 101]) ++ (32 :: Lib.itoa l0)) ++ (32 :: Lib.itoa l1)) from by rw [← hs21, bapp, hds19.out, hds20.out])
        clear hs21 hbz
        have hbz : (s21 ++ (⟨#[32]⟩ : ByteArray)).size ≤ 60082 + 200 * j2 + 4 + 22 + 22 + 1 := by rw [ByteArray.size_append]; have := (show (⟨#[32]⟩ : ByteArray).size = 1 from rfl); omega
        (refine wpSegs_take (v := ?_) hS rfl (fun w' hw => ?_) ?_; rotate_left; (obtain ⟨c0, c1, c2⟩ := Blk.cells3 hw; go_simp; (try rw [if_neg (by omega)]); try with_reducible rfl); (try simp only [Act.put, zA, zB, zC]))
        obtain ⟨s22, hs22⟩ : ∃ s22, s21 ++ (⟨#[32]⟩ : ByteArray) = s22 := ⟨_, rfl⟩
        rw [hs22]
        have hzs22 : s22.size ≤ 60082 + 200 * j2 + 4 + 22 + 22 + 1 := by rw [← hs22]; exact hbz
        have hds22 := hZ (show s22.data.toList = ((((s.data.toList ++ [32, 117, 115, 101]) ++ (32 :: Lib.itoa l0)) ++ (32 :: Lib.itoa l1)) ++ [32]) from by rw [← hs22, bapp, hds21.out])
        clear hs22 hbz
        refine wpSegs_run rfl (fun K hK => ?_)
        go_simp
        refine (rtext_any l2 _ o2).mono ?_
        rintro e vs23 ⟨rfl, q⟩
        obtain ⟨s23, hs23, hds23, hzs23⟩ : ∃ s23 : ByteArray, s23 = ⟨(Lib.itoa l2).toArray⟩ ∧ s23.data.toList = Lib.itoa l2 ∧ s23.size ≤ 21 := ⟨_, rfl, by simp, bz_le (itoa_len l2 o2)⟩
        rw [← hs23]
        clear hs23
        have hds23 := hZ hds23
        have hS2 := hS.turned q (fun e => e)
        refine hK.out _ _ hS2 ?_
        clear hK K
        have TX := hZ (TX.out.and_ q)
        have BT3 := hZ (BT3.out.turned q (fun e => e))
        clear q hS
        have hS := hS2
        clear hS2
        (try simp only [Act.put, zA, zB, zC])
        have hbz : (s22 ++ s23).size ≤ 60082 + 200 * j2 + 4 + 22 + 22 + 1 + 21 := by rw [ByteArray.size_append]; omega
        (refine wpSegs_take (v := ?_) hS rfl (fun w' hw => ?_) ?_; rotate_left; (obtain ⟨c0, c1, c2⟩ := Blk.cells3 hw; go_simp; (try rw [if_neg (by omega)]); try with_reducible rfl); (try simp only [Act.put, zA, zB, zC]))
        obtain ⟨s24, hs24⟩ : ∃ s24, s22 ++ s23 = s24 := ⟨_, rfl⟩
        rw [hs24]
        have hzs24 : s24.size ≤ 60082 + 200 * j2 + 4 + 22 + 22 + 1 + 21 := by rw [← hs24]; exact hbz
        have hds24 := hZ (show s24.data.toList = (((((s.data.toList ++ [32, 117, 115, 101]) ++ (32 :: Lib.itoa l0)) ++ (32 :: Lib.itoa l1)) ++ [32]) ++ (Lib.itoa l2)) from by rw [← hs24, bapp, hds22.out, hds23.out])
        clear hs24 hbz
        (refine wpSegs_take (v := ?_) hS rfl (fun w' hw => ?_) ?_; rotate_left; (obtain ⟨c0, c1, c2⟩ := Blk.cells3 hw; go_simp; (try rw [if_neg (by omega)]); try with_reducible rfl); (try simp only [Act.put, zA, zB, zC]))
        refine wpSegs_nil ?_
        have hd8 := hZ (show s24.data.toList = each32 (ws7 ++ (uses.take (j2 + 1)).flatMap useW) from by rw [hm.out, hds24.out, hds.out, ← List.append_assoc ws7, each32_append (ws7 ++ (uses.take j2).flatMap useW)]; simp [each32, useW])
        have hz8 : s24.size ≤ 60082 + 200 * (j2 + 1) := by omega
        clear hds hds17 hds19 hds21 hds22 hds24 hds18 hds20 hds23
        generalize s24 = t8 at *
        clear hS
        go_wp2_with fail
        go_roundw
        case rel => exact ⟨j2 + 1, _, hlt2, by go_num, rfl, hd8.out, hz8, BT3.out, TX.out⟩
        case measure => simp [intOf] <;> omega
       ·have hge2 : (Un : Int) ≤ (j2 : Int) := by omega
        have h8 := hds.out
        rw [List.take_of_length_le (by rw [hl2'.out]; omega)] at h8
        have h8h := hZ h8
        clear h8
        obtain ⟨x0, x1, x2, x3, x4, x5, x6⟩ := BT1.out.cells7
        go_wp2_with fail
        go_ret
        refine ⟨congrArg (fun s => Ending.returned (.string s)) (ba_is ?_), T1.out⟩
        rw [h8h.out]
        have e : tellsW ⟨er, id, dy, cd, st, lots, uses⟩ = ws7 ++ uses.flatMap useW := by
         unfold tellsW
         rw [if_pos hr'.out, if_neg (by simp [he'.out]), hws7k.out, hws6h.out, ← hcwh.out]
         simp
        rw [e]
  ·have he2 : (er != 0) = true := by simp [he]
   have he' := hZ he
   clear he
   go_wp2_with fail
   refine (rtext32_any er _ hI.err).mono ?_
   rintro e W2 ⟨rfl, q⟩
   have T2 := hZ (T1.out.and_ q)
   clear q T1
   have hz1 := itoa_len er hI.err
   have z0 : (⟨#[32, 101, 114, 114, 111, 114]⟩ : ByteArray).size = 6 := rfl
   obtain ⟨s1, h1, hd1, hz2⟩ : ∃ s1 : ByteArray, s1 = ⟨(32 :: Lib.itoa er).toArray⟩ ∧ s1.data.toList = 32 :: Lib.itoa er ∧ s1.size ≤ 22 := ⟨_, rfl, by simp, bz_le (by simp only [List.length_cons]; omega)⟩
   rw [← h1]
   clear h1
   have hbz : ((⟨#[32, 101, 114, 114, 111, 114]⟩ : ByteArray) ++ s1).size ≤ 28 := by rw [ByteArray.size_append, z0]; omega
   go_wp2_with fail
   go_ret
   refine ⟨congrArg (fun s => Ending.returned (.string s)) (ba_is ?_), T2.out⟩
   have e : tellsW ⟨er, id, dy, cd, st, lots, uses⟩ = [[101, 114, 114, 111, 114], Lib.itoa er] := by unfold tellsW; rw [if_pos hr'.out, if_pos he'.out]
   rw [e, bapp, hd1]
   simp [each32]
end Go.Proofs.YtglojnmcbochaaaGreatDoor

