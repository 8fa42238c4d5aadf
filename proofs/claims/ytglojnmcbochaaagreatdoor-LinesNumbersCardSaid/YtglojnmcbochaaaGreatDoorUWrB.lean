/-
 strconv.Itoa, by the library's contract; a writer takes an answer. Conditions: the library's variables hold what their initialisers lay; at most 1000 words ahead.
-/
import Derived.Test.YtglojnmcbochaaaGreatDoorUWrA
import Derived.Test.YtglojnmcbochaaaGreatDoorUTelB
import Derived.Test.YtglojnmcbochaaaGreatDoorURegD
namespace Go.Proofs.YtglojnmcbochaaaGreatDoor
open Go.RowKit Go.Maps
set_option linter.unusedVariables false
set_option linter.unusedSimpArgs false

theorem iitoa_any (n : Int) (w : World) (hv : VarsOk w) (h : int64 n) : Calls Tryz.prog 77 #[.int .i64 n] w (StrNew (Lib.itoa n) w) := by
 have hc := hZ (Any.internal_strconv_FormatInt_10 { Tryz.laysM173 with } n h.1 h.2 w hv.tab)
 go_enter Tryz.func77, Tryz.ntmps77
 go_wp2_with fail
 refine hc.out.mono ?_
 rintro e w1 ⟨rfl, k, os, rfl⟩
 have ht := hZ (turned_grow w k os)
 generalize Sort.grow (w.drewN k) os = w1 at ht
 go_wp2_with fail
 go_ret
 exact ⟨rfl, ht.out⟩
theorem itoa_any (n : Int) (w : World) (hv : VarsOk w) (h : int64 n) : Calls Tryz.prog 35 #[.int .i64 n] w (StrNew (Lib.itoa n) w) := by
 have hc := hZ (iitoa_any n w hv h)
 go_enter Tryz.func35, Tryz.ntmps35
 go_wp2_with fail
 refine hc.out.mono ?_
 rintro e w1 ⟨rfl, ht⟩
 have ht := hZ ht
 go_wp2_with fail
 go_ret
 exact ⟨rfl, ht.out⟩
theorem WrT.size {B g : Nat} {w w' : World} (h : WrT B g w w') : w.heap.size ≤ w'.heap.size := Turned.size h
theorem Blk.cells3 {w : World} {g : Nat} {t : TypeId} {a0 a1 a2 : Value} (h : Blk w g t #[a0, a1, a2]) : w.cell? ⟨g, 0, none⟩ = some a0 ∧ w.cell? ⟨g, 1, none⟩ = some a1 ∧ w.cell? ⟨g, 2, none⟩ = some a2 := ⟨h.cell 0, h.cell 1, h.cell 2⟩
theorem flat_take {α β : Type} (f : α → List β) (l : List α) (d : α) (j : Nat) (hj : j < l.length) : (l.take (j + 1)).flatMap f = (l.take j).flatMap f ++ f (l.getD j d) := by
 rw [List.take_succ_eq_append_getElem hj, List.flatMap_append]
 simp [List.getD_eq_getElem?_getD, hj]
theorem flatLen {α β : Type} (f : α → List β) (q : Nat) (hf : ∀ x, (f x).length = q) (l : List α) : (l.flatMap f).length = q * l.length := by
 induction l with
 | nil => simp
 | cons x l ih => rw [List.flatMap_cons, List.length_append, hf, ih, List.length_cons, Nat.mul_succ]; omega
theorem rightT_few {t : TellV} (h : rightT t = true) : t.lots.length ≤ 300 ∧ t.uses.length ≤ 2000 := by
 unfold rightT at h
 split at h
 ·cases h
 ·split at h
  ·unfold bareT at h
   simp only [zD, zE] at h
   rw [h.2.2.2.2.1, h.2.2.2.2.2]
   exact ⟨Nat.zero_le _, Nat.zero_le _⟩
  ·simp only [zD, zE] at h
   exact ⟨h.2.2.2.2.1, h.2.2.2.2.2.1⟩
def TlRel (B g n : Nat) (w : World) (b : Nat) (cs : Array Value) (f : Nat → WS) (i : Value) (wr : World) : Prop := ∃ j : Nat, j ≤ n ∧ i = .int .i64 j ∧ Blk wr b 42 cs ∧ WrW wr B g (f j) ∧ WrT B g w wr
theorem wr_wordS {B g : Nat} {ws : WS} {w : World} (s : ByteArray) (h : WrW w B g ws) (hbz : B ≤ w.heap.size) (hN : ws.length + 1 ≤ 1000000) : Calls Tryz.prog 34 #[.pointer (some ⟨g, 0, none⟩), .slice (some ⟨w.heap.size, 0, none⟩) 1 1] (w.alloc (.cells #[.string s] 9)) (WrPost B g (ws ++ [s.data.toList]) w) := by
 have := wr_word1 s.data.toList h hbz hN
 simpa using this
set_option maxRecDepth 100000 in
set_option maxHeartbeats 8000000 in
theorem wr_tells (w0 : World) (g : Nat) (ws : WS) (t : TellV) (S : TellS) (w : World) (hv0 : VarsOk w0) (t00 : Turned (fun _ => False) w0 w) (hg : w0.heap.size ≤ g) (h : WrW w w0.heap.size g ws) (hIs : TellIs w0 t S) (hok : t.Ok) (hN0 : ws.length ≤ 1000) :
  Calls Tryz.prog 37 #[.pointer (some ⟨g, 0, none⟩), .agg (tellC t S)] w (WrPost w0.heap.size g (ws ++ tellsW t) w) := by
 have mixed : Tryz.prog.follows .mixedOrders = true := by kernel_rfl
 have hRt := hZ (fun W (h : Turned (fun _ => False) w0 W) => tell_right_any t S W (hIs.fresh h) hok)
 have hl1 := SlL.len hIs.lots
 have hl2 := SlU.len hIs.uses
 have hb1 := Nat.le_trans hIs.lots.le hIs.lots.max
 have hb2 := Nat.le_trans hIs.uses.le hIs.uses.max
 unfold maxLen at hb1 hb2
 have hLk0 := hok.lots
 have hUk0 := hok.uses
 have hst := hok.state
 unfold isByte at hst
 have hI := hok
 obtain ⟨er, id, dy, cd, st, lots, uses⟩ := t
 obtain ⟨⟨LA, Ln, Lc⟩, ⟨UA, Un, Uc⟩⟩ := S
 simp only at hl1 hl2 hb1 hb2 hLk0 hUk0 hst
 have hL := hZ hIs.lots
 have hU := hZ hIs.uses
 have hLk := hZ hLk0
 have hUk := hZ hUk0
 have hl1' := hZ hl1
 have hl2' := hZ hl2
 have hN := hZ hN0
 have hv := hZ hv0
 have t0w := hZ t00
 have hzw := hZ t00.size
 have H0 := hZ h
 have hgl := h.lt
 clear hIs hok hl1 hl2 hLk0 hUk0 hN0 hv0 t00 h
 unfold tellC strV at hRt ⊢
 simp only at hRt ⊢
 have hsl0 : (⟨cd.toArray⟩ : ByteArray).toList = cd := by rw [ByteArray.toList_eq]
 have hsd0 : (⟨cd.toArray⟩ : ByteArray).data.toList = cd := by simp
 generalize (⟨cd.toArray⟩ : ByteArray) = str at *
 have hsl := hZ hsl0
 have hsd := hZ hsd0
 clear hsl0 hsd0
 go_enter Tryz.func37, Tryz.ntmps37
 go_wp2_with fail
 have tb := (Turned.refl (fun _ => False) w).alloc (.cells #[.int .i64 er, .int .i64 id, .int .i64 dy, .string str, .int .u8 st, .slice LA Ln Lc, .slice UA Un Uc] 42)
 have hB0 := Blk.new w 42 #[.int .i64 er, .int .i64 id, .int .i64 dy, .string str, .int .u8 st, .slice LA Ln Lc, .slice UA Un Uc]
 refine (hRt.out _ (t0w.out.and_ tb)).mono ?_
 rintro e W1 ⟨rfl, t1⟩
 have HW1 := hZ ((H0.out.fresh tb).fresh t1)
 have TT1 := hZ ((WrT.of tb : WrT w0.heap.size g _ _).trans (WrT.of t1))
 have t01 := hZ ((t0w.out.and_ tb).and_ t1)
 have hz1 := hZ (Nat.le_trans hzw.out (tb.and_ t1).size)
 have BT1 := hZ (hB0.turned t1 (fun e => e))
 obtain ⟨bt, hbt⟩ : ∃ bt, w.heap.size = bt := ⟨_, rfl⟩
 rw [hbt] at BT1 ⊢
 have hbg : bt ≠ g := by omega
 clear hbt tb t1 hB0 hRt H0 hgl
 obtain ⟨x0, x1, x2, x3, x4, x5, x6⟩ := BT1.out.cells7
 cases hr : rightT ⟨er, id, dy, cd, st, lots, uses⟩ with
 | false =>
  have hr' := hZ hr
  clear hr
  go_wp2_with fail
  refine (wr_word1 [110, 111, 110, 101] HW1.out hz1.out (by have := hN.out; (try simp only [List.length_append, List.length_cons, List.length_nil]); omega)).mono ?_
  rintro e W2 ⟨rfl, hw2, tw2⟩
  have HW2 := hZ hw2
  have TT2 := hZ (TT1.out.trans tw2)
  have t02 := hZ (tw2.all t01.out hg)
  have hz2 := hZ (Nat.le_trans hz1.out tw2.size)
  have BT2 := hZ (tw2.blk BT1.out (by decide) hbg)
  clear hw2 tw2 HW1 TT1 t01 hz1 BT1 x0 x1 x2 x3 x4 x5 x6
  obtain ⟨x0, x1, x2, x3, x4, x5, x6⟩ := BT2.out.cells7
  go_wp2_with fail
  go_end0
  have e : tellsW ⟨er, id, dy, cd, st, lots, uses⟩ = [[110, 111, 110, 101]] := by unfold tellsW; rw [if_neg (by rw [hr'.out]; decide)]
  rw [e]
  exact ⟨rfl, HW2.out, TT2.out⟩
 | true =>
  have hr' := hZ hr
  clear hr
  have hb4 := hZ (rightT_few hr'.out)
  by_cases he : er = 0
  ·have he2 : (er != 0) = false := by simp [he]
   have he' := hZ he
   clear he
   go_wp2_with fail
   refine (wr_word1 [111, 107] HW1.out hz1.out (by have := hN.out; (try simp only [List.length_append, List.length_cons, List.length_nil]); omega)).mono ?_
   rintro e W2 ⟨rfl, hw2, tw2⟩
   have HW2 := hZ hw2
   have TT2 := hZ (TT1.out.trans tw2)
   have t02 := hZ (tw2.all t01.out hg)
   have hz2 := hZ (Nat.le_trans hz1.out tw2.size)
   have BT2 := hZ (tw2.blk BT1.out (by decide) hbg)
   clear hw2 tw2 HW1 TT1 t01 hz1 BT1 x0 x1 x2 x3 x4 x5 x6
   obtain ⟨x0, x1, x2, x3, x4, x5, x6⟩ := BT2.out.cells7
   go_wp2_with fail
   refine (wr_num2 (id) (dy) hv.out t02.out hg HW2.out hI.id hI.day (by have := hN.out; (try simp only [List.length_append, List.length_cons, List.length_nil]); omega)).mono ?_
   rintro e W3 ⟨rfl, hw3, tw3⟩
   have HW3 := hZ hw3
   have TT3 := hZ (TT2.out.trans tw3)
   have t03 := hZ (tw3.all t02.out hg)
   have hz3 := hZ (Nat.le_trans hz2.out tw3.size)
   have BT3 := hZ (tw3.blk BT2.out (by decide) hbg)
   clear hw3 tw3 HW2 TT2 t02 hz2 BT2 x0 x1 x2 x3 x4 x5 x6
   obtain ⟨x0, x1, x2, x3, x4, x5, x6⟩ := BT3.out.cells7
   go_upto_if 38 with fail
   generalize hem0 : str.toList.isEmpty = em at *
   have hem := hZ hem0
   clear hem0
   go_cut [] from 39 to 46 (fun wc => Blk wc bt 42 #[.int .i64 er, .int .i64 id, .int .i64 dy, .string str, .int .u8 st, .slice LA Ln Lc, .slice UA Un Uc] ∧ WrW wc w0.heap.size g (ws ++ [[111, 107]] ++ [Lib.itoa id, Lib.itoa dy] ++ [if cd = [] then [45] else cd]) ∧ WrT w0.heap.size g w wc)
   case first =>
    cases em with
    | true =>
     have hcd : cd = [] := by have := hem.out; rw [hsl.out] at this; exact List.isEmpty_iff.1 this
     have hce := hZ (show (if cd = [] then [45] else cd) = [45] from if_pos hcd)
     clear hcd
     go_wp2_with fail
     refine (wr_word1 [45] HW3.out hz3.out (by have := hN.out; (try simp only [List.length_append, List.length_cons, List.length_nil]); omega)).mono ?_
     rintro e W4 ⟨rfl, hw4, tw4⟩
     have HW4 := hZ hw4
     have TT4 := hZ (TT3.out.trans tw4)
     have t04 := hZ (tw4.all t03.out hg)
     have hz4 := hZ (Nat.le_trans hz3.out tw4.size)
     have BT4 := hZ (tw4.blk BT3.out (by decide) hbg)
     clear hw4 tw4 HW3 TT3 t03 hz3 BT3 
     go_wp2_with fail
     go_meet
     exact ⟨BT4.out, by rw [hce.out]; exact HW4.out, TT4.out⟩
    | false =>
     have hcd : cd ≠ [] := by have := hem.out; rw [hsl.out] at this; rintro rfl; cases this
     have hce := hZ (show (if cd = [] then [45] else cd) = cd from if_neg hcd)
     clear hcd
     go_wp2_with fail
     refine (wr_wordS str HW3.out hz3.out (by have := hN.out; (try simp only [List.length_append, List.length_cons, List.length_nil]); omega)).mono ?_
     rintro e W4 ⟨rfl, hw4, tw4⟩
     have HW4 := hZ hw4
     have TT4 := hZ (TT3.out.trans tw4)
     have t04 := hZ (tw4.all t03.out hg)
     have hz4 := hZ (Nat.le_trans hz3.out tw4.size)
     have BT4 := hZ (tw4.blk BT3.out (by decide) hbg)
     clear hw4 tw4 HW3 TT3 t03 hz3 BT3 
     go_wp2_with fail
     go_meet
     exact ⟨BT4.out, by rw [hce.out, ← hsd.out]; exact HW4.out, TT4.out⟩
   case rest =>
    obtain ⟨hB, hW, hT⟩ := hcut
    clear HW3 BT3 x0 x1 x2 x3 x4 x5 x6 t03 hz3
    have hT9 := hT
    have t03 := hZ (hT.all t0w.out hg)
    have hz3 := hZ (Nat.le_trans hzw.out hT.size)
    clear TT3
    have TT3 := hZ hT
    have BT3 := hZ hB
    have HW3 := hZ hW
    clear hB hW hT hT9
    obtain ⟨x0, x1, x2, x3, x4, x5, x6⟩ := BT3.out.cells7
    generalize hcw : (if cd = [] then [45] else cd) = cw at *
    have hcwh := hZ hcw
    clear hcw
    go_wp2_with fail
    refine (wr_num1 (st) hv.out t03.out hg HW3.out (by unfold I64; omega) (by have := hN.out; (try simp only [List.length_append, List.length_cons, List.length_nil]); omega)).mono ?_
    rintro e W4 ⟨rfl, hw4, tw4⟩
    have HW4 := hZ hw4
    have TT4 := hZ (TT3.out.trans tw4)
    have t04 := hZ (tw4.all t03.out hg)
    have hz4 := hZ (Nat.le_trans hz3.out tw4.size)
    have BT4 := hZ (tw4.blk BT3.out (by decide) hbg)
    clear hw4 tw4 HW3 TT3 t03 hz3 BT3 x0 x1 x2 x3 x4 x5 x6
    obtain ⟨x0, x1, x2, x3, x4, x5, x6⟩ := BT4.out.cells7
    go_wp2_with fail
    obtain ⟨ws6, hws6⟩ : ∃ ws6, ws6 = ws ++ [[111, 107]] ++ [Lib.itoa id, Lib.itoa dy] ++ [cw] ++ [Lib.itoa st] := ⟨_, rfl⟩
    rw [← hws6] at HW4
    have hws6h := hZ hws6
    have hN6 := hZ (show ws6.length ≤ 1005 from by rw [hws6]; have := hN.out; simp only [List.length_append, List.length_cons, List.length_nil]; omega)
    clear hws6
    clear x0 x1 x2 x3 x4 x5 x6
    have hst1 := hZ (show TlRel w0.heap.size g Ln w bt #[.int .i64 er, .int .i64 id, .int .i64 dy, .string str, .int .u8 st, .slice LA Ln Lc, .slice UA Un Uc] (fun j => ws6 ++ (lots.take j).flatMap lotW) (.int .i64 0) W4 from ⟨0, Nat.zero_le _, rfl, BT4.out, by simpa using HW4.out, TT4.out⟩)
    clear BT4 HW4 TT4 t04 hz4
    go_loopw [56] (fun i wr => TlRel w0.heap.size g Ln w bt #[.int .i64 er, .int .i64 id, .int .i64 dy, .string str, .int .u8 st, .slice LA Ln Lc, .slice UA Un Uc] (fun j => ws6 ++ (lots.take j).flatMap lotW) i wr) (fun i _ => Ln - (intOf i).toNat)
    case atStart => exact hst1.out
    case round =>
     obtain ⟨j, hj, rfl, hBr0, hWr0, hTr0⟩ := hrel
     clear hst1
     have hBr := hBr0
     have BT1 := hZ hBr0
     have HW1 := hZ (show WrW wr w0.heap.size g (ws6 ++ (lots.take j).flatMap lotW) from hWr0)
     have TT1 := hZ hTr0
     have t01 := hZ (hTr0.all t0w.out hg)
     have hz1 := hZ (Nat.le_trans hzw.out hTr0.size)
     clear hBr0 hWr0 hTr0 hBr
     by_cases hlt : j < Ln
     ·have hji : (j : Int) < (Ln : Int) := by omega
      obtain ⟨bl, off, hA, hc⟩ := SlL.cells (SlE.fresh hL.out t01.out : SlL wr ⟨LA, Ln, Lc⟩ lots) (show 0 < Ln by omega)
      simp only at hA
      subst hA
      obtain ⟨q0, q1, q2, q3, q4, q5⟩ := hc j hlt
      have hjl := hZ (show j < lots.length by rw [hl1'.out]; exact hlt)
      have hm := hZ (flat_take lotW lots LotV.zero j hjl.out)
      have hLo := hLk.out (lots.getD j LotV.zero) (by rw [List.getD_eq_getElem?_getD, List.getElem?_eq_getElem hjl.out]; exact List.getElem_mem hjl.out)
      obtain ⟨o0, o1, o2, o3, o4⟩ := hLo
      have hNj := hZ (show (ws6 ++ (lots.take j).flatMap lotW).length ≤ 1005 + 7 * 300 from by have h1 := hN6.out; have h2 := flatLen lotW 7 (fun _ => rfl) (lots.take j); have h3 := hb4.out.1; (try simp only at h3); rw [List.length_append, h2, List.length_take]; omega)
      clear hc
      generalize lots.getD j LotV.zero = L at *
      obtain ⟨l0, l1, l2, l3, l4, l5⟩ := L
      simp only at q0 q1 q2 q3 q4 q5 o0 o1 o2 o3 o4
      obtain ⟨wsj, hwsj0⟩ : ∃ wsj, wsj = ws6 ++ (lots.take j).flatMap lotW := ⟨_, rfl⟩
      rw [← hwsj0] at HW1 hNj
      have hwsj := hZ hwsj0
      clear hwsj0
      go_upto_region 14 with fail
      have tb := (Turned.refl (fun _ => False) wr).alloc (.cells #[.int .i64 l0, .string ⟨l1.toArray⟩, .int .i64 l2, .int .i64 l3, .int .i64 l4, .bool l5] 60)
      have BL1 := hZ (Blk.new wr 60 #[.int .i64 l0, .string ⟨l1.toArray⟩, .int .i64 l2, .int .i64 l3, .int .i64 l4, .bool l5])
      have HW2 := hZ (HW1.out.fresh tb)
      have TT2 := hZ (TT1.out.trans (WrT.of tb))
      have t02 := hZ (t01.out.and_ tb)
      have hz2 := hZ (Nat.le_trans hz1.out tb.size)
      have BT2 := hZ (BT1.out.turned tb (fun e => e))
      have hlg : wr.heap.size ≠ g := by have := HW1.out.lt; omega
      obtain ⟨W2, hW2⟩ : ∃ W2, W2 = wr.alloc (.cells #[.int .i64 l0, .string ⟨l1.toArray⟩, .int .i64 l2, .int .i64 l3, .int .i64 l4, .bool l5] 60) := ⟨_, rfl⟩
      rw [← hW2] at BL1 HW2 TT2 t02 hz2 BT2 ⊢
      clear hW2
      obtain ⟨bo, hbo⟩ : ∃ bo, wr.heap.size = bo := ⟨_, rfl⟩
      rw [hbo] at BL1 hlg ⊢
      clear hbo HW1 TT1 t01 hz1 BT1 tb q0 q1 q2 q3 q4 q5
      refine wp_region_segs (fun w' => Blk w' bo 60 #[.int .i64 l0, .string ⟨l1.toArray⟩, .int .i64 l2, .int .i64 l3, .int .i64 l4, .bool l5]) (segT [0, 1, 2, 4, 5] ++ segF [3, 6, 7]) mixed (by kernel_rfl) (fun _ _ _ _ _ h => h) ?_
      simp only [segT, segF, pickSegs, zF, List.map_nil, zG, zH, List.filterMap_cons, List.filterMap_nil, zI, zJ, Option.map_some]
      have hd := (Turned.refl (fun _ => False) W2).drew
      have hS : Blk W2.drew bo 60 #[.int .i64 l0, .string ⟨l1.toArray⟩, .int .i64 l2, .int .i64 l3, .int .i64 l4, .bool l5] := BL1.out.drew
      have HW3 := hZ (HW2.out.fresh hd)
      have TT3 := hZ (TT2.out.trans (WrT.of hd))
      have t03 := hZ (t02.out.and_ hd)
      have hz3 := hZ (Nat.le_trans hz2.out hd.size)
      have BT3 := hZ (BT2.out.turned hd (fun e => e))
      clear HW2 TT2 t02 hz2 BT2 BL1 hd
      generalize W2.drew = W3 at *
      iterate 5 (refine wpSegs_take (v := ?_) hS rfl (fun w' hw => ?_) ?_; rotate_left; (obtain ⟨c0, c1, c2, c3, c4, c5⟩ := Blk.cells6 hw; go_simp; try with_reducible rfl); (try simp only [Act.put, zA, zB, zC]))
      refine wpSegs_run rfl (fun K hK => ?_)
      go_simp
      refine (itoa_any l0 _ (hv.out.turned t03.out) o0).mono ?_
      rintro e W4 ⟨rfl, t4⟩
      have hS4 := hS.turned t4 (fun e => e)
      refine hK.out _ _ hS4 ?_
      clear hK K hS
      have HW4 := hZ (HW3.out.fresh t4)
      have TT4 := hZ (TT3.out.trans (WrT.of t4))
      have t04 := hZ (t03.out.and_ t4)
      have hz4 := hZ (Nat.le_trans hz3.out t4.size)
      have BT4 := hZ (BT3.out.turned t4 (fun e => e))
      clear HW3 TT3 t03 hz3 BT3 t4
      (try simp only [Act.put, zA, zB, zC])
      refine wpSegs_run rfl (fun K hK => ?_)
      go_simp
      refine hK.out _ _ (hS4.alloc _) ?_
      clear hK K
      (try simp only [Act.put, zA, zB, zC])
      refine wpSegs_run rfl (fun K hK => ?_)
      go_simp
      refine (wr_word3 [108, 111, 116] (Lib.itoa l0) l1 HW4.out hz4.out (by have := hNj.out; omega)).mono ?_
      rintro e W5 ⟨rfl, hw5, tw5⟩
      have hS5 := tw5.blk hS4 (by decide) hlg
      refine hK.out _ _ hS5 ?_
      clear hK K
      have HW5 := hZ hw5
      have TT5 := hZ (TT4.out.trans tw5)
      have t05 := hZ (tw5.all t04.out hg)
      have hz5 := hZ (Nat.le_trans hz4.out tw5.size)
      have BT5 := hZ (tw5.blk BT4.out (by decide) hbg)
      have BL5 := hZ hS5
      clear HW4 TT4 t04 hz4 BT4 hS4 hS5 hw5 tw5
      (try simp only [Act.put, zA, zB, zC])
      refine wpSegs_nil ?_
      obtain ⟨c0, c1, c2, c3, c4, c5⟩ := Blk.cells6 BL5.out
      cases l5 with
      | false =>
       go_wp2_with fail
       refine (wr_num4 (l2) (l3) (l4) (0) hv.out t05.out hg HW5.out o2 o3 o4 (by unfold I64; omega) (by have := hNj.out; (try simp only [List.length_append, List.length_cons, List.length_nil]); omega)).mono ?_
       rintro e W6 ⟨rfl, hw6, tw6⟩
       have HW6 := hZ hw6
       have TT6 := hZ (TT5.out.trans tw6)
       have t06 := hZ (tw6.all t05.out hg)
       have hz6 := hZ (Nat.le_trans hz5.out tw6.size)
       have BT6 := hZ (tw6.blk BT5.out (by decide) hbg)
       have BL6 := hZ (tw6.blk BL5.out (by decide) hlg)
       clear hw6 tw6 HW5 TT5 t05 hz5 BT5 BL5 c0 c1 c2 c3 c4 c5
       obtain ⟨c0, c1, c2, c3, c4, c5⟩ := BL6.out.cells6
       go_wp2_with fail
       go_roundw
       case rel => exact ⟨j + 1, hlt, by go_num, BT6.out, by have h9 := HW6.out; rw [List.append_assoc] at h9; show WrW _ _ _ (ws6 ++ (lots.take (j + 1)).flatMap lotW); rw [hm.out, ← List.append_assoc]; rw [hwsj.out] at h9; exact h9, TT6.out⟩
       case measure => simp [intOf] <;> omega
      | true =>
       go_wp2_with fail
       refine (wr_num4 (l2) (l3) (l4) (1) hv.out t05.out hg HW5.out o2 o3 o4 (by unfold I64; omega) (by have := hNj.out; (try simp only [List.length_append, List.length_cons, List.length_nil]); omega)).mono ?_
       rintro e W6 ⟨rfl, hw6, tw6⟩
       have HW6 := hZ hw6
       have TT6 := hZ (TT5.out.trans tw6)
       have t06 := hZ (tw6.all t05.out hg)
       have hz6 := hZ (Nat.le_trans hz5.out tw6.size)
       have BT6 := hZ (tw6.blk BT5.out (by decide) hbg)
       have BL6 := hZ (tw6.blk BL5.out (by decide) hlg)
       clear hw6 tw6 HW5 TT5 t05 hz5 BT5 BL5 c0 c1 c2 c3 c4 c5
       obtain ⟨c0, c1, c2, c3, c4, c5⟩ := BL6.out.cells6
       go_wp2_with fail
       go_roundw
       case rel => exact ⟨j + 1, hlt, by go_num, BT6.out, by have h9 := HW6.out; rw [List.append_assoc] at h9; show WrW _ _ _ (ws6 ++ (lots.take (j + 1)).flatMap lotW); rw [hm.out, ← List.append_assoc]; rw [hwsj.out] at h9; exact h9, TT6.out⟩
       case measure => simp [intOf] <;> omega
     ·have hge : (Ln : Int) ≤ (j : Int) := by omega
      have hws7 := hZ (show ws6 ++ (lots.take j).flatMap lotW = ws6 ++ lots.flatMap lotW from by rw [List.take_of_length_le (by rw [hl1'.out]; omega)])
      obtain ⟨ws7, hws7h⟩ : ∃ ws7, ws7 = ws6 ++ lots.flatMap lotW := ⟨_, rfl⟩
      rw [hws7.out, ← hws7h] at HW1
      have hws7k := hZ hws7h
      have hN7 := hZ (show ws7.length ≤ 1005 + 7 * 300 from by have h1 := hN6.out; have h2 := flatLen lotW 7 (fun _ => rfl) lots; have h3 := hb4.out.1; (try simp only at h3); rw [hws7h, List.length_append, h2]; omega)
      clear hws7h hws7
      obtain ⟨x0, x1, x2, x3, x4, x5, x6⟩ := BT1.out.cells7
      go_wp2_with fail
      clear x0 x1 x2 x3 x4 x5 x6
      have hst2 := hZ (show TlRel w0.heap.size g Un w bt #[.int .i64 er, .int .i64 id, .int .i64 dy, .string str, .int .u8 st, .slice LA Ln Lc, .slice UA Un Uc] (fun j => ws7 ++ (uses.take j).flatMap useW) (.int .i64 0) wr from ⟨0, Nat.zero_le _, rfl, BT1.out, by simpa using HW1.out, TT1.out⟩)
      clear BT1 HW1 TT1 t01 hz1
      go_loopw [86] (fun i wr => TlRel w0.heap.size g Un w bt #[.int .i64 er, .int .i64 id, .int .i64 dy, .string str, .int .u8 st, .slice LA Ln Lc, .slice UA Un Uc] (fun j => ws7 ++ (uses.take j).flatMap useW) i wr) (fun i _ => Un - (intOf i).toNat)
      case atStart => exact hst2.out
      case round =>
       obtain ⟨j2, hj2, rfl, hBr0, hWr0, hTr0⟩ := hrel
       clear hst2
       have hBr := hBr0
       have BT1 := hZ hBr0
       have HW1 := hZ (show WrW wr w0.heap.size g (ws7 ++ (uses.take j2).flatMap useW) from hWr0)
       have TT1 := hZ hTr0
       have t01 := hZ (hTr0.all t0w.out hg)
       have hz1 := hZ (Nat.le_trans hzw.out hTr0.size)
       clear hBr0 hWr0 hTr0 hBr
       by_cases hlt2 : j2 < Un
       ·have hji2 : (j2 : Int) < (Un : Int) := by omega
        obtain ⟨bl, off, hA, hc⟩ := SlU.cells (SlE.fresh hU.out t01.out) (show 0 < Un by omega)
        simp only at hA
        subst hA
        obtain ⟨q0, q1, q2⟩ := hc j2 hlt2
        have hjl := hZ (show j2 < uses.length by rw [hl2'.out]; exact hlt2)
        have hm := hZ (flat_take useW uses UseV.zero j2 hjl.out)
        have hLo := hUk.out (uses.getD j2 UseV.zero) (by rw [List.getD_eq_getElem?_getD, List.getElem?_eq_getElem hjl.out]; exact List.getElem_mem hjl.out)
        obtain ⟨o0, o1, o2⟩ := hLo
        have hNj := hZ (show (ws7 ++ (uses.take j2).flatMap useW).length ≤ 1005 + 7 * 300 + 4 * 2000 from by have h1 := hN7.out; have h2 := flatLen useW 4 (fun _ => rfl) (uses.take j2); have h3 := hb4.out.2; (try simp only at h3); rw [List.length_append, h2, List.length_take]; omega)
        clear hc
        generalize uses.getD j2 UseV.zero = L at *
        obtain ⟨l0, l1, l2⟩ := L
        simp only at q0 q1 q2 o0 o1 o2
        obtain ⟨wsj, hwsj0⟩ : ∃ wsj, wsj = ws7 ++ (uses.take j2).flatMap useW := ⟨_, rfl⟩
        rw [← hwsj0] at HW1 hNj
        have hwsj := hZ hwsj0
        clear hwsj0
        go_upto_region 23 with fail
        have tb := (Turned.refl (fun _ => False) wr).alloc (.cells #[.int .i64 l0, .int .i64 l1, .int .i64 l2] 64)
        have BL2 := hZ (Blk.new wr 64 #[.int .i64 l0, .int .i64 l1, .int .i64 l2])
        have HW2 := hZ (HW1.out.fresh tb)
        have TT2 := hZ (TT1.out.trans (WrT.of tb))
        have t02 := hZ (t01.out.and_ tb)
        have hz2 := hZ (Nat.le_trans hz1.out tb.size)
        have BT2 := hZ (BT1.out.turned tb (fun e => e))
        have hlg : wr.heap.size ≠ g := by have := HW1.out.lt; omega
        obtain ⟨W2, hW2⟩ : ∃ W2, W2 = wr.alloc (.cells #[.int .i64 l0, .int .i64 l1, .int .i64 l2] 64) := ⟨_, rfl⟩
        rw [← hW2] at BL2 HW2 TT2 t02 hz2 BT2 ⊢
        clear hW2
        obtain ⟨bo, hbo⟩ : ∃ bo, wr.heap.size = bo := ⟨_, rfl⟩
        rw [hbo] at BL2 hlg ⊢
        clear hbo HW1 TT1 t01 hz1 BT1 tb q0 q1 q2
        go_wp2_with fail
        refine (wr_word1 [117, 115, 101] HW2.out hz2.out (by have := hNj.out; (try simp only [List.length_append, List.length_cons, List.length_nil]); omega)).mono ?_
        rintro e W3 ⟨rfl, hw3, tw3⟩
        have HW3 := hZ hw3
        have TT3 := hZ (TT2.out.trans tw3)
        have t03 := hZ (tw3.all t02.out hg)
        have hz3 := hZ (Nat.le_trans hz2.out tw3.size)
        have BT3 := hZ (tw3.blk BT2.out (by decide) hbg)
        have BL3 := hZ (tw3.blk BL2.out (by decide) hlg)
        clear hw3 tw3 HW2 TT2 t02 hz2 BT2 BL2
        obtain ⟨c0, c1, c2⟩ := BL3.out.cells3
        go_wp2_with fail
        refine (wr_num3 (l0) (l1) (l2) hv.out t03.out hg HW3.out o0 o1 o2 (by have := hNj.out; (try simp only [List.length_append, List.length_cons, List.length_nil]); omega)).mono ?_
        rintro e W4 ⟨rfl, hw4, tw4⟩
        have HW4 := hZ hw4
        have TT4 := hZ (TT3.out.trans tw4)
        have t04 := hZ (tw4.all t03.out hg)
        have hz4 := hZ (Nat.le_trans hz3.out tw4.size)
        have BT4 := hZ (tw4.blk BT3.out (by decide) hbg)
        have BL4 := hZ (tw4.blk BL3.out (by decide) hlg)
        clear hw4 tw4 HW3 TT3 t03 hz3 BT3 BL3 c0 c1 c2
        obtain ⟨c0, c1, c2⟩ := BL4.out.cells3
        go_wp2_with fail
        go_roundw
        case rel => exact ⟨j2 + 1, hlt2, by go_num, BT4.out, by have h9 := HW4.out; rw [List.append_assoc] at h9; show WrW _ _ _ (ws7 ++ (uses.take (j2 + 1)).flatMap useW); rw [hm.out, ← List.append_assoc]; rw [hwsj.out] at h9; exact h9, TT4.out⟩
        case measure => simp [intOf] <;> omega
       ·have hge2 : (Un : Int) ≤ (j2 : Int) := by omega
        have h8 := HW1.out
        rw [List.take_of_length_le (by rw [hl2'.out]; omega)] at h8
        have h8h := hZ h8
        clear h8
        go_wp2_with fail
        go_end0
        have e : ws ++ tellsW ⟨er, id, dy, cd, st, lots, uses⟩ = ws7 ++ uses.flatMap useW := by
         unfold tellsW
         rw [if_pos hr'.out, if_neg (by simp [he'.out]), hws7k.out, hws6h.out, ← hcwh.out]
         simp
        rw [e]
        exact ⟨rfl, h8h.out, TT1.out⟩
  ·have he2 : (er != 0) = true := by simp [he]
   have he' := hZ he
   clear he
   go_wp2_with fail
   refine (itoa_any er _ (hv.out.turned t01.out) hI.err).mono ?_
   rintro e W9 ⟨rfl, t9⟩
   have HW2 := hZ (HW1.out.fresh t9)
   have TT2 := hZ (TT1.out.trans (WrT.of t9))
   have t02 := hZ (t01.out.and_ t9)
   have hz2 := hZ (Nat.le_trans hz1.out t9.size)
   have BT2 := hZ (BT1.out.turned t9 (fun e => e))
   clear HW1 TT1 t01 hz1 BT1 x0 x1 x2 x3 x4 x5 x6 t9
   obtain ⟨x0, x1, x2, x3, x4, x5, x6⟩ := BT2.out.cells7
   go_wp2_with fail
   refine (wr_word2 [101, 114, 114, 111, 114] (Lib.itoa er) HW2.out hz2.out (by have := hN.out; (try simp only [List.length_append, List.length_cons, List.length_nil]); omega)).mono ?_
   rintro e W3 ⟨rfl, hw3, tw3⟩
   have HW3 := hZ hw3
   have TT3 := hZ (TT2.out.trans tw3)
   have t03 := hZ (tw3.all t02.out hg)
   have hz3 := hZ (Nat.le_trans hz2.out tw3.size)
   have BT3 := hZ (tw3.blk BT2.out (by decide) hbg)
   clear hw3 tw3 HW2 TT2 t02 hz2 BT2 x0 x1 x2 x3 x4 x5 x6
   obtain ⟨x0, x1, x2, x3, x4, x5, x6⟩ := BT3.out.cells7
   go_wp2_with fail
   go_end0
   have e : tellsW ⟨er, id, dy, cd, st, lots, uses⟩ = [[101, 114, 114, 111, 114], Lib.itoa er] := by unfold tellsW; rw [if_pos hr'.out, if_pos he'.out]
   rw [e]
   exact ⟨rfl, HW3.out, TT3.out⟩
end Go.Proofs.YtglojnmcbochaaaGreatDoor

