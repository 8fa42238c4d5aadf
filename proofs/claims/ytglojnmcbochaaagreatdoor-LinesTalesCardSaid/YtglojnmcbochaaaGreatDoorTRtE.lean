/-
  storemanref31.Tell: a tale's line by the document. Condition: texts are no longer than texts may be.
-/
import Derived.Test.YtglojnmcbochaaaGreatDoorTRtD
import Derived.Test.YtglojnmcbochaaaGreatDoorTWrD
namespace Go.Proofs.YtglojnmcbochaaaGreatDoor
open Go.RowKit Go.Maps
set_option linter.unusedVariables false
set_option linter.unusedSimpArgs false

theorem each32_le {ws : WS} {n : Nat} (h : ∀ p ∈ ws, p.length ≤ 21) (hn : ws.length ≤ n) : (each32 ws).length ≤ 22 * n := by
  have : ∀ ws : WS, (∀ p ∈ ws, p.length ≤ 21) → (each32 ws).length ≤ 22 * ws.length := by
    intro ws
    induction ws with
    | nil => intro _; exact Nat.zero_le _
    | cons p ws ih =>
      intro h
      rw [each32_cons]
      have h1 := h p (by simp)
      have h2 := ih (fun q hq => h q (by simp [hq]))
      simp only [List.length_append, List.length_cons]
      omega
  have := this ws h
  omega
theorem told_asks {t : TaleV} (h : t.kind = 1) : toldL t = Lib.itoa t.at_ ++ each32 ([97, 115, 107, 115] :: Lib.itoa t.session :: asksW t.ask) := by
  unfold toldL toldW
  rw [if_pos h, join32]
  rfl
theorem told_tells {t : TaleV} (h : t.kind = 2) : toldL t = Lib.itoa t.at_ ++ each32 ([116, 101, 108, 108, 115] :: Lib.itoa t.session :: tellsW t.tell) := by
  unfold toldL toldW
  rw [if_neg (by omega), if_pos h, join32]
  rfl
theorem told_down {t : TaleV} (h : t.kind = 3) : toldL t = Lib.itoa t.at_ ++ each32 [[100, 111, 119, 110]] := by
  unfold toldL toldW
  rw [if_neg (by omega), if_neg (by omega), if_pos h, join32]
  rfl
theorem told_open {t : TaleV} (h : t.kind = 4) : toldL t = Lib.itoa t.at_ ++ each32 [[111, 112, 101, 110]] := by
  unfold toldL toldW
  rw [if_neg (by omega), if_neg (by omega), if_neg (by omega), if_pos h, join32]
  rfl
theorem told_none {t : TaleV} (h1 : ¬ t.kind = 1) (h2 : ¬ t.kind = 2) (h3 : ¬ t.kind = 3) (h4 : ¬ t.kind = 4) : toldL t = Lib.itoa t.at_ ++ each32 [[110, 111, 110, 101]] := by
  unfold toldL toldW
  rw [if_neg h1, if_neg h2, if_neg h3, if_neg h4, join32]
  rfl
set_option maxRecDepth 100000 in
set_option maxHeartbeats 16000000 in
theorem rtold_any (t : TaleV) (SA : AskS) (ST : TellS) (w : World) (hA0 : AskIs w t.ask SA) (hT0 : TellIs w t.tell ST) (hok : t.Ok) : Calls Tryz.prog 15 #[.agg (taleC t SA ST)] w (StrNew (toldL t) w) := by
  have mixed : Tryz.prog.follows .mixedOrders = true := by kernel_rfl
  obtain ⟨tk, at_, ses, ⟨kd, rq, it, qt, dy, dz, rk, lo, ln, parts, others⟩, ⟨er, id, ty, cd, st, lots, uses⟩⟩ := t
  obtain ⟨⟨PA, Pn, Pc⟩, ⟨QA, On, Oc⟩⟩ := SA
  obtain ⟨⟨LA, Ln, Lc⟩, ⟨UA, Un, Uc⟩⟩ := ST
  have hA := Lib.hid hA0
  have hT := Lib.hid hT0
  have hAo := Lib.hid hok.ask
  have hTo := Lib.hid hok.tell
  have hOs := hok.session
  have hOa := hok.at_
  have hkb := hok.kind
  unfold isByte at hkb
  simp only at hkb hOs hOa
  clear hA0 hT0 hok
  unfold taleC strV
  simp only
  go_enter Tryz.func15, Tryz.ntmps15
  go_upto_region 1 with fail
  have tb := (Turned.refl (fun _ => False) w).alloc (.cells #[.int .u8 tk, .int .i64 at_, .int .i64 ses, .int .u8 kd, .int .i64 rq, .string ⟨it.toArray⟩, .int .i64 qt, .int .i64 dy, .int .i64 dz, .int .i64 rk, .int .i64 lo, .int .i64 ln, .slice PA Pn Pc, .slice QA On Oc, .int .i64 er, .int .i64 id, .int .i64 ty, .string ⟨cd.toArray⟩, .int .u8 st, .slice LA Ln Lc, .slice UA Un Uc] 44)
  have hB0 := Blk.new w 44 #[.int .u8 tk, .int .i64 at_, .int .i64 ses, .int .u8 kd, .int .i64 rq, .string ⟨it.toArray⟩, .int .i64 qt, .int .i64 dy, .int .i64 dz, .int .i64 rk, .int .i64 lo, .int .i64 ln, .slice PA Pn Pc, .slice QA On Oc, .int .i64 er, .int .i64 id, .int .i64 ty, .string ⟨cd.toArray⟩, .int .u8 st, .slice LA Ln Lc, .slice UA Un Uc]
  obtain ⟨W0, hW0⟩ : ∃ W0, W0 = w.alloc (.cells #[.int .u8 tk, .int .i64 at_, .int .i64 ses, .int .u8 kd, .int .i64 rq, .string ⟨it.toArray⟩, .int .i64 qt, .int .i64 dy, .int .i64 dz, .int .i64 rk, .int .i64 lo, .int .i64 ln, .slice PA Pn Pc, .slice QA On Oc, .int .i64 er, .int .i64 id, .int .i64 ty, .string ⟨cd.toArray⟩, .int .u8 st, .slice LA Ln Lc, .slice UA Un Uc] 44) := ⟨_, rfl⟩
  rw [← hW0] at tb hB0 ⊢
  clear hW0
  obtain ⟨bt, hbt⟩ : ∃ bt, w.heap.size = bt := ⟨_, rfl⟩
  rw [hbt] at hB0 ⊢
  clear hbt
  have T0 := Lib.hid tb
  have B0 := Lib.hid hB0
  obtain ⟨x0, x1, x2, x3, x4, x5, x6, x7, x8, x9, x10, x11, x12, x13, x14, x15, x16, x17, x18, x19, x20⟩ := hB0.cells21
  clear hB0 tb
  go_wp2_with fail
  refine (rtext_any at_ _ hOa).mono ?_
  rintro e W1 ⟨rfl, q⟩
  have T1 := Lib.hid (T0.out.and_ q)
  have B1 := Lib.hid (B0.out.turned q (fun e => e))
  clear q T0 B0 x0 x1 x2 x3 x4 x5 x6 x7 x8 x9 x10 x11 x12 x13 x14 x15 x16 x17 x18 x19 x20
  obtain ⟨s0, hs0, hd00, hz0⟩ : ∃ s0 : ByteArray, s0 = ⟨(Lib.itoa at_).toArray⟩ ∧ s0.data.toList = Lib.itoa at_ ∧ s0.size ≤ 21 := ⟨_, rfl, by simp, bz_le (itoa_len at_ hOa)⟩
  rw [← hs0]
  have hd0 := Lib.hid hd00
  clear hs0 hd00
  obtain ⟨x0, x1, x2, x3, x4, x5, x6, x7, x8, x9, x10, x11, x12, x13, x14, x15, x16, x17, x18, x19, x20⟩ := B1.out.cells21
  go_upto_region 3 with fail
  by_cases n1 : tk = 1
  · subst n1
    have hAs := Lib.hid (fun W (x : Turned (fun _ => False) w W) => rasks_any ⟨kd, rq, it, qt, dy, dz, rk, lo, ln, parts, others⟩ ⟨⟨PA, Pn, Pc⟩, ⟨QA, On, Oc⟩⟩ W (hA.out.fresh x) hAo.out)
    unfold askC strV at hAs
    simp only at hAs
    have haz := each32_le (asks_short hAo.out).2 (asks_short hAo.out).1
    obtain ⟨aw, haw0⟩ : ∃ aw, asksW ⟨kd, rq, it, qt, dy, dz, rk, lo, ln, parts, others⟩ = aw := ⟨_, rfl⟩
    rw [haw0] at hAs haz
    have haw := Lib.hid haw0
    clear haw0
    go_upto_region 4 with fail
    refine wp_region_segs (fun w' => Blk w' bt 44 #[.int .u8 1, .int .i64 at_, .int .i64 ses, .int .u8 kd, .int .i64 rq, .string ⟨it.toArray⟩, .int .i64 qt, .int .i64 dy, .int .i64 dz, .int .i64 rk, .int .i64 lo, .int .i64 ln, .slice PA Pn Pc, .slice QA On Oc, .int .i64 er, .int .i64 id, .int .i64 ty, .string ⟨cd.toArray⟩, .int .u8 st, .slice LA Ln Lc, .slice UA Un Uc]) (segT [0, 1, 2, 3, 6, 7] ++ segF [4] ++ segT [5] ++ segF [8] ++ segT [9, 10]) mixed (by kernel_rfl) (fun _ _ _ _ _ h => h) ?_
    simp only [segT, segF, pickSegs, List.map_cons, List.map_nil, List.cons_append, List.nil_append, List.filterMap_cons, List.filterMap_nil, List.getElem?_cons_zero, List.getElem?_cons_succ, Option.map_some]
    have q := (Turned.refl (fun _ => False) W1).drew
    have hS : Blk W1.drew bt 44 #[.int .u8 1, .int .i64 at_, .int .i64 ses, .int .u8 kd, .int .i64 rq, .string ⟨it.toArray⟩, .int .i64 qt, .int .i64 dy, .int .i64 dz, .int .i64 rk, .int .i64 lo, .int .i64 ln, .slice PA Pn Pc, .slice QA On Oc, .int .i64 er, .int .i64 id, .int .i64 ty, .string ⟨cd.toArray⟩, .int .u8 st, .slice LA Ln Lc, .slice UA Un Uc] := B1.out.drew
    have TX := Lib.hid (T1.out.and_ q)
    clear q T1 B1 x0 x1 x2 x3 x4 x5 x6 x7 x8 x9 x10 x11 x12 x13 x14 x15 x16 x17 x18 x19 x20
    generalize W1.drew = W2 at *
    (refine wpSegs_take (v := ?_) hS rfl (fun w' hw => ?_) ?_; rotate_left; (obtain ⟨x0, x1, x2, x3, x4, x5, x6, x7, x8, x9, x10, x11, x12, x13, x14, x15, x16, x17, x18, x19, x20⟩ := Blk.cells21 hw; go_simp; (try rw [if_neg (by omega)]); try with_reducible rfl); (try simp only [Act.put, List.setIfInBounds_toArray, List.set_cons_zero, List.set_cons_succ]))
    have hbz : (s0 ++ (⟨#[32, 97, 115, 107, 115]⟩ : ByteArray)).size ≤ 21 + 5 := by rw [ByteArray.size_append]; have := (show (⟨#[32, 97, 115, 107, 115]⟩ : ByteArray).size = 5 from rfl); omega
    (refine wpSegs_take (v := ?_) hS rfl (fun w' hw => ?_) ?_; rotate_left; (obtain ⟨x0, x1, x2, x3, x4, x5, x6, x7, x8, x9, x10, x11, x12, x13, x14, x15, x16, x17, x18, x19, x20⟩ := Blk.cells21 hw; go_simp; (try rw [if_neg (by omega)]); try with_reducible rfl); (try simp only [Act.put, List.setIfInBounds_toArray, List.set_cons_zero, List.set_cons_succ]))
    obtain ⟨s30, hs30⟩ : ∃ s30, s0 ++ (⟨#[32, 97, 115, 107, 115]⟩ : ByteArray) = s30 := ⟨_, rfl⟩
    rw [hs30]
    have hzs30 : s30.size ≤ 21 + 5 := by rw [← hs30]; exact hbz
    have hds30 := Lib.hid (show s30.data.toList = (s0.data.toList ++ [32, 97, 115, 107, 115]) from by rw [← hs30, bapp])
    clear hs30 hbz
    (refine wpSegs_take (v := ?_) hS rfl (fun w' hw => ?_) ?_; rotate_left; (obtain ⟨x0, x1, x2, x3, x4, x5, x6, x7, x8, x9, x10, x11, x12, x13, x14, x15, x16, x17, x18, x19, x20⟩ := Blk.cells21 hw; go_simp; (try rw [if_neg (by omega)]); try with_reducible rfl); (try simp only [Act.put, List.setIfInBounds_toArray, List.set_cons_zero, List.set_cons_succ]))
    (refine wpSegs_take (v := ?_) hS rfl (fun w' hw => ?_) ?_; rotate_left; (obtain ⟨x0, x1, x2, x3, x4, x5, x6, x7, x8, x9, x10, x11, x12, x13, x14, x15, x16, x17, x18, x19, x20⟩ := Blk.cells21 hw; go_simp; (try rw [if_neg (by omega)]); try with_reducible rfl); (try simp only [Act.put, List.setIfInBounds_toArray, List.set_cons_zero, List.set_cons_succ]))
    (refine wpSegs_take (v := ?_) hS rfl (fun w' hw => ?_) ?_; rotate_left; (obtain ⟨x0, x1, x2, x3, x4, x5, x6, x7, x8, x9, x10, x11, x12, x13, x14, x15, x16, x17, x18, x19, x20⟩ := Blk.cells21 hw; go_simp; (try rw [if_neg (by omega)]); try with_reducible rfl); (try simp only [Act.put, List.setIfInBounds_toArray, List.set_cons_zero, List.set_cons_succ]))
    (refine wpSegs_take (v := ?_) hS rfl (fun w' hw => ?_) ?_; rotate_left; (obtain ⟨x0, x1, x2, x3, x4, x5, x6, x7, x8, x9, x10, x11, x12, x13, x14, x15, x16, x17, x18, x19, x20⟩ := Blk.cells21 hw; go_simp; (try rw [if_neg (by omega)]); try with_reducible rfl); (try simp only [Act.put, List.setIfInBounds_toArray, List.set_cons_zero, List.set_cons_succ]))
    refine wpSegs_run rfl (fun K hK => ?_)
    go_simp
    refine (rtext32_any ses _ hOs).mono ?_
    rintro e vs31 ⟨rfl, q⟩
    obtain ⟨s31, hs31, hds31, hzs31⟩ : ∃ s31 : ByteArray, s31 = ⟨(32 :: Lib.itoa ses).toArray⟩ ∧ s31.data.toList = 32 :: Lib.itoa ses ∧ s31.size ≤ 22 := ⟨_, rfl, by simp, bz_le (by have := itoa_len ses hOs; simp only [List.length_cons]; omega)⟩
    rw [← hs31]
    clear hs31
    have hds31 := Lib.hid hds31
    have hS2 := hS.turned q (fun e => e)
    refine hK.out _ _ hS2 ?_
    clear hK K
    have TX := Lib.hid (TX.out.and_ q)
    clear q hS
    have hS := hS2
    clear hS2
    (try simp only [Act.put, List.setIfInBounds_toArray, List.set_cons_zero, List.set_cons_succ])
    have hbz : (s30 ++ s31).size ≤ 21 + 5 + 22 := by rw [ByteArray.size_append]; omega
    (refine wpSegs_take (v := ?_) hS rfl (fun w' hw => ?_) ?_; rotate_left; (obtain ⟨x0, x1, x2, x3, x4, x5, x6, x7, x8, x9, x10, x11, x12, x13, x14, x15, x16, x17, x18, x19, x20⟩ := Blk.cells21 hw; go_simp; (try rw [if_neg (by omega)]); try with_reducible rfl); (try simp only [Act.put, List.setIfInBounds_toArray, List.set_cons_zero, List.set_cons_succ]))
    obtain ⟨s32, hs32⟩ : ∃ s32, s30 ++ s31 = s32 := ⟨_, rfl⟩
    rw [hs32]
    have hzs32 : s32.size ≤ 21 + 5 + 22 := by rw [← hs32]; exact hbz
    have hds32 := Lib.hid (show s32.data.toList = ((s0.data.toList ++ [32, 97, 115, 107, 115]) ++ (32 :: Lib.itoa ses)) from by rw [← hs32, bapp, hds30.out, hds31.out])
    clear hs32 hbz
    refine wpSegs_run rfl (fun K hK => ?_)
    go_simp
    refine (hAs.out _ TX.out).mono ?_
    rintro e vs33 ⟨rfl, q⟩
    obtain ⟨s33, hs33, hds33, hzs33⟩ : ∃ s33 : ByteArray, s33 = ⟨(each32 aw).toArray⟩ ∧ s33.data.toList = each32 aw ∧ s33.size ≤ 2200 := ⟨_, rfl, by simp, bz_le haz⟩
    rw [← hs33]
    clear hs33
    have hds33 := Lib.hid hds33
    have hS2 := hS.turned q (fun e => e)
    refine hK.out _ _ hS2 ?_
    clear hK K
    have TX := Lib.hid (TX.out.and_ q)
    clear q hS
    have hS := hS2
    clear hS2
    (try simp only [Act.put, List.setIfInBounds_toArray, List.set_cons_zero, List.set_cons_succ])
    have hbz : (s32 ++ s33).size ≤ 21 + 5 + 22 + 2200 := by rw [ByteArray.size_append]; omega
    (refine wpSegs_take (v := ?_) hS rfl (fun w' hw => ?_) ?_; rotate_left; (obtain ⟨x0, x1, x2, x3, x4, x5, x6, x7, x8, x9, x10, x11, x12, x13, x14, x15, x16, x17, x18, x19, x20⟩ := Blk.cells21 hw; go_simp; (try rw [if_neg (by omega)]); try with_reducible rfl); (try simp only [Act.put, List.setIfInBounds_toArray, List.set_cons_zero, List.set_cons_succ]))
    obtain ⟨s34, hs34⟩ : ∃ s34, s32 ++ s33 = s34 := ⟨_, rfl⟩
    rw [hs34]
    have hzs34 : s34.size ≤ 21 + 5 + 22 + 2200 := by rw [← hs34]; exact hbz
    have hds34 := Lib.hid (show s34.data.toList = (((s0.data.toList ++ [32, 97, 115, 107, 115]) ++ (32 :: Lib.itoa ses)) ++ (each32 aw)) from by rw [← hs34, bapp, hds32.out, hds33.out])
    clear hs34 hbz
    (refine wpSegs_take (v := ?_) hS rfl (fun w' hw => ?_) ?_; rotate_left; (obtain ⟨x0, x1, x2, x3, x4, x5, x6, x7, x8, x9, x10, x11, x12, x13, x14, x15, x16, x17, x18, x19, x20⟩ := Blk.cells21 hw; go_simp; (try rw [if_neg (by omega)]); try with_reducible rfl); (try simp only [Act.put, List.setIfInBounds_toArray, List.set_cons_zero, List.set_cons_succ]))
    refine wpSegs_nil ?_
    have hd9 := Lib.hid (show s34.data.toList = Lib.itoa at_ ++ each32 ([97, 115, 107, 115] :: Lib.itoa ses :: aw) from by rw [hds34.out, hd0.out, each32_cons, each32_cons]; simp)
    clear hd0 hds30 hds32 hds34 hds31 hds33
    generalize s34 = p9 at *
    clear hS
    go_wp2_with fail
    go_ret
    refine ⟨congrArg (fun s => Ending.returned (.string s)) (ba_is ?_), TX.out⟩
    rw [hd9.out, told_asks rfl]
    rw [haw.out]
  by_cases n2 : tk = 2
  · subst n2
    have hAs := Lib.hid (fun W (x : Turned (fun _ => False) w W) => rtells_any ⟨er, id, ty, cd, st, lots, uses⟩ ⟨⟨LA, Ln, Lc⟩, ⟨UA, Un, Uc⟩⟩ W (hT.out.fresh x) hTo.out)
    unfold tellC strV at hAs
    simp only at hAs
    have haz := each32_le (tells_short hTo.out).2 (tells_short hTo.out).1
    obtain ⟨aw, haw0⟩ : ∃ aw, tellsW ⟨er, id, ty, cd, st, lots, uses⟩ = aw := ⟨_, rfl⟩
    rw [haw0] at hAs haz
    have haw := Lib.hid haw0
    clear haw0
    go_upto_region 6 with fail
    refine wp_region_segs (fun w' => Blk w' bt 44 #[.int .u8 2, .int .i64 at_, .int .i64 ses, .int .u8 kd, .int .i64 rq, .string ⟨it.toArray⟩, .int .i64 qt, .int .i64 dy, .int .i64 dz, .int .i64 rk, .int .i64 lo, .int .i64 ln, .slice PA Pn Pc, .slice QA On Oc, .int .i64 er, .int .i64 id, .int .i64 ty, .string ⟨cd.toArray⟩, .int .u8 st, .slice LA Ln Lc, .slice UA Un Uc]) (segT [0, 1, 2, 3, 6, 7] ++ segF [4] ++ segT [5] ++ segF [8] ++ segT [9, 10]) mixed (by kernel_rfl) (fun _ _ _ _ _ h => h) ?_
    simp only [segT, segF, pickSegs, List.map_cons, List.map_nil, List.cons_append, List.nil_append, List.filterMap_cons, List.filterMap_nil, List.getElem?_cons_zero, List.getElem?_cons_succ, Option.map_some]
    have q := (Turned.refl (fun _ => False) W1).drew
    have hS : Blk W1.drew bt 44 #[.int .u8 2, .int .i64 at_, .int .i64 ses, .int .u8 kd, .int .i64 rq, .string ⟨it.toArray⟩, .int .i64 qt, .int .i64 dy, .int .i64 dz, .int .i64 rk, .int .i64 lo, .int .i64 ln, .slice PA Pn Pc, .slice QA On Oc, .int .i64 er, .int .i64 id, .int .i64 ty, .string ⟨cd.toArray⟩, .int .u8 st, .slice LA Ln Lc, .slice UA Un Uc] := B1.out.drew
    have TX := Lib.hid (T1.out.and_ q)
    clear q T1 B1 x0 x1 x2 x3 x4 x5 x6 x7 x8 x9 x10 x11 x12 x13 x14 x15 x16 x17 x18 x19 x20
    generalize W1.drew = W2 at *
    (refine wpSegs_take (v := ?_) hS rfl (fun w' hw => ?_) ?_; rotate_left; (obtain ⟨x0, x1, x2, x3, x4, x5, x6, x7, x8, x9, x10, x11, x12, x13, x14, x15, x16, x17, x18, x19, x20⟩ := Blk.cells21 hw; go_simp; (try rw [if_neg (by omega)]); try with_reducible rfl); (try simp only [Act.put, List.setIfInBounds_toArray, List.set_cons_zero, List.set_cons_succ]))
    have hbz : (s0 ++ (⟨#[32, 116, 101, 108, 108, 115]⟩ : ByteArray)).size ≤ 21 + 6 := by rw [ByteArray.size_append]; have := (show (⟨#[32, 116, 101, 108, 108, 115]⟩ : ByteArray).size = 6 from rfl); omega
    (refine wpSegs_take (v := ?_) hS rfl (fun w' hw => ?_) ?_; rotate_left; (obtain ⟨x0, x1, x2, x3, x4, x5, x6, x7, x8, x9, x10, x11, x12, x13, x14, x15, x16, x17, x18, x19, x20⟩ := Blk.cells21 hw; go_simp; (try rw [if_neg (by omega)]); try with_reducible rfl); (try simp only [Act.put, List.setIfInBounds_toArray, List.set_cons_zero, List.set_cons_succ]))
    obtain ⟨s35, hs35⟩ : ∃ s35, s0 ++ (⟨#[32, 116, 101, 108, 108, 115]⟩ : ByteArray) = s35 := ⟨_, rfl⟩
    rw [hs35]
    have hzs35 : s35.size ≤ 21 + 6 := by rw [← hs35]; exact hbz
    have hds35 := Lib.hid (show s35.data.toList = (s0.data.toList ++ [32, 116, 101, 108, 108, 115]) from by rw [← hs35, bapp])
    clear hs35 hbz
    (refine wpSegs_take (v := ?_) hS rfl (fun w' hw => ?_) ?_; rotate_left; (obtain ⟨x0, x1, x2, x3, x4, x5, x6, x7, x8, x9, x10, x11, x12, x13, x14, x15, x16, x17, x18, x19, x20⟩ := Blk.cells21 hw; go_simp; (try rw [if_neg (by omega)]); try with_reducible rfl); (try simp only [Act.put, List.setIfInBounds_toArray, List.set_cons_zero, List.set_cons_succ]))
    (refine wpSegs_take (v := ?_) hS rfl (fun w' hw => ?_) ?_; rotate_left; (obtain ⟨x0, x1, x2, x3, x4, x5, x6, x7, x8, x9, x10, x11, x12, x13, x14, x15, x16, x17, x18, x19, x20⟩ := Blk.cells21 hw; go_simp; (try rw [if_neg (by omega)]); try with_reducible rfl); (try simp only [Act.put, List.setIfInBounds_toArray, List.set_cons_zero, List.set_cons_succ]))
    (refine wpSegs_take (v := ?_) hS rfl (fun w' hw => ?_) ?_; rotate_left; (obtain ⟨x0, x1, x2, x3, x4, x5, x6, x7, x8, x9, x10, x11, x12, x13, x14, x15, x16, x17, x18, x19, x20⟩ := Blk.cells21 hw; go_simp; (try rw [if_neg (by omega)]); try with_reducible rfl); (try simp only [Act.put, List.setIfInBounds_toArray, List.set_cons_zero, List.set_cons_succ]))
    (refine wpSegs_take (v := ?_) hS rfl (fun w' hw => ?_) ?_; rotate_left; (obtain ⟨x0, x1, x2, x3, x4, x5, x6, x7, x8, x9, x10, x11, x12, x13, x14, x15, x16, x17, x18, x19, x20⟩ := Blk.cells21 hw; go_simp; (try rw [if_neg (by omega)]); try with_reducible rfl); (try simp only [Act.put, List.setIfInBounds_toArray, List.set_cons_zero, List.set_cons_succ]))
    refine wpSegs_run rfl (fun K hK => ?_)
    go_simp
    refine (rtext32_any ses _ hOs).mono ?_
    rintro e vs36 ⟨rfl, q⟩
    obtain ⟨s36, hs36, hds36, hzs36⟩ : ∃ s36 : ByteArray, s36 = ⟨(32 :: Lib.itoa ses).toArray⟩ ∧ s36.data.toList = 32 :: Lib.itoa ses ∧ s36.size ≤ 22 := ⟨_, rfl, by simp, bz_le (by have := itoa_len ses hOs; simp only [List.length_cons]; omega)⟩
    rw [← hs36]
    clear hs36
    have hds36 := Lib.hid hds36
    have hS2 := hS.turned q (fun e => e)
    refine hK.out _ _ hS2 ?_
    clear hK K
    have TX := Lib.hid (TX.out.and_ q)
    clear q hS
    have hS := hS2
    clear hS2
    (try simp only [Act.put, List.setIfInBounds_toArray, List.set_cons_zero, List.set_cons_succ])
    have hbz : (s35 ++ s36).size ≤ 21 + 6 + 22 := by rw [ByteArray.size_append]; omega
    (refine wpSegs_take (v := ?_) hS rfl (fun w' hw => ?_) ?_; rotate_left; (obtain ⟨x0, x1, x2, x3, x4, x5, x6, x7, x8, x9, x10, x11, x12, x13, x14, x15, x16, x17, x18, x19, x20⟩ := Blk.cells21 hw; go_simp; (try rw [if_neg (by omega)]); try with_reducible rfl); (try simp only [Act.put, List.setIfInBounds_toArray, List.set_cons_zero, List.set_cons_succ]))
    obtain ⟨s37, hs37⟩ : ∃ s37, s35 ++ s36 = s37 := ⟨_, rfl⟩
    rw [hs37]
    have hzs37 : s37.size ≤ 21 + 6 + 22 := by rw [← hs37]; exact hbz
    have hds37 := Lib.hid (show s37.data.toList = ((s0.data.toList ++ [32, 116, 101, 108, 108, 115]) ++ (32 :: Lib.itoa ses)) from by rw [← hs37, bapp, hds35.out, hds36.out])
    clear hs37 hbz
    refine wpSegs_run rfl (fun K hK => ?_)
    go_simp
    refine (hAs.out _ TX.out).mono ?_
    rintro e vs38 ⟨rfl, q⟩
    obtain ⟨s38, hs38, hds38, hzs38⟩ : ∃ s38 : ByteArray, s38 = ⟨(each32 aw).toArray⟩ ∧ s38.data.toList = each32 aw ∧ s38.size ≤ 224400 := ⟨_, rfl, by simp, bz_le haz⟩
    rw [← hs38]
    clear hs38
    have hds38 := Lib.hid hds38
    have hS2 := hS.turned q (fun e => e)
    refine hK.out _ _ hS2 ?_
    clear hK K
    have TX := Lib.hid (TX.out.and_ q)
    clear q hS
    have hS := hS2
    clear hS2
    (try simp only [Act.put, List.setIfInBounds_toArray, List.set_cons_zero, List.set_cons_succ])
    have hbz : (s37 ++ s38).size ≤ 21 + 6 + 22 + 224400 := by rw [ByteArray.size_append]; omega
    (refine wpSegs_take (v := ?_) hS rfl (fun w' hw => ?_) ?_; rotate_left; (obtain ⟨x0, x1, x2, x3, x4, x5, x6, x7, x8, x9, x10, x11, x12, x13, x14, x15, x16, x17, x18, x19, x20⟩ := Blk.cells21 hw; go_simp; (try rw [if_neg (by omega)]); try with_reducible rfl); (try simp only [Act.put, List.setIfInBounds_toArray, List.set_cons_zero, List.set_cons_succ]))
    obtain ⟨s39, hs39⟩ : ∃ s39, s37 ++ s38 = s39 := ⟨_, rfl⟩
    rw [hs39]
    have hzs39 : s39.size ≤ 21 + 6 + 22 + 224400 := by rw [← hs39]; exact hbz
    have hds39 := Lib.hid (show s39.data.toList = (((s0.data.toList ++ [32, 116, 101, 108, 108, 115]) ++ (32 :: Lib.itoa ses)) ++ (each32 aw)) from by rw [← hs39, bapp, hds37.out, hds38.out])
    clear hs39 hbz
    (refine wpSegs_take (v := ?_) hS rfl (fun w' hw => ?_) ?_; rotate_left; (obtain ⟨x0, x1, x2, x3, x4, x5, x6, x7, x8, x9, x10, x11, x12, x13, x14, x15, x16, x17, x18, x19, x20⟩ := Blk.cells21 hw; go_simp; (try rw [if_neg (by omega)]); try with_reducible rfl); (try simp only [Act.put, List.setIfInBounds_toArray, List.set_cons_zero, List.set_cons_succ]))
    refine wpSegs_nil ?_
    have hd9 := Lib.hid (show s39.data.toList = Lib.itoa at_ ++ each32 ([116, 101, 108, 108, 115] :: Lib.itoa ses :: aw) from by rw [hds39.out, hd0.out, each32_cons, each32_cons]; simp)
    clear hd0 hds35 hds37 hds39 hds36 hds38
    generalize s39 = p9 at *
    clear hS
    go_wp2_with fail
    go_ret
    refine ⟨congrArg (fun s => Ending.returned (.string s)) (ba_is ?_), TX.out⟩
    rw [hd9.out, told_tells rfl]
    rw [haw.out]
  by_cases n3 : tk = 3
  · subst n3
    have hbz : (s0 ++ (⟨#[32, 100, 111, 119, 110]⟩ : ByteArray)).size ≤ 21 + 5 := by rw [ByteArray.size_append]; have := (show (⟨#[32, 100, 111, 119, 110]⟩ : ByteArray).size = 5 from rfl); omega
    go_wp2_with fail
    go_ret
    refine ⟨congrArg (fun s => Ending.returned (.string s)) (ba_is ?_), T1.out⟩
    rw [bapp, hd0.out, told_down rfl]
    rfl
  by_cases n4 : tk = 4
  · subst n4
    have hbz : (s0 ++ (⟨#[32, 111, 112, 101, 110]⟩ : ByteArray)).size ≤ 21 + 5 := by rw [ByteArray.size_append]; have := (show (⟨#[32, 111, 112, 101, 110]⟩ : ByteArray).size = 5 from rfl); omega
    go_wp2_with fail
    go_ret
    refine ⟨congrArg (fun s => Ending.returned (.string s)) (ba_is ?_), T1.out⟩
    rw [bapp, hd0.out, told_open rfl]
    rfl
  have hbz : (s0 ++ (⟨#[32, 110, 111, 110, 101]⟩ : ByteArray)).size ≤ 21 + 5 := by rw [ByteArray.size_append]; have := (show (⟨#[32, 110, 111, 110, 101]⟩ : ByteArray).size = 5 from rfl); omega
  go_wp2_with fail
  go_ret
  refine ⟨congrArg (fun s => Ending.returned (.string s)) (ba_is ?_), T1.out⟩
  rw [bapp, hd0.out, told_none n1 n2 n3 n4]
  rfl
end Go.Proofs.YtglojnmcbochaaaGreatDoor

