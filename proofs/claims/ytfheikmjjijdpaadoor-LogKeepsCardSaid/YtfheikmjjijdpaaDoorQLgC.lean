/-
  slices.Clone of bytes; log.read: the sheet that a sector is. Conditions: a sector's bytes; a sheet that is read has a body.
-/
import Derived.Test.YtfheikmjjijdpaaDoorQLgB
import Derived.Deep.CutRange
namespace Go.Proofs.YtfheikmjjijdpaaDoor
open Go.RowKit Go.Maps
set_option linter.unusedVariables false
set_option linter.unusedSimpArgs false

theorem BytR.fresh_ {w w' : World} {A : Option Addr} {n : Nat} {zs : List Int} (h : BytR w A n zs) (ht : Turned (fun _ => False) w w') : BytR w' A n zs :=
  ⟨h.len, h.max, fun h0 => by
    obtain ⟨b, off, e, hc⟩ := h.cell h0
    exact ⟨b, off, e, fun j hj => cell_turned ht (hc j hj) (fun e => e)⟩⟩
theorem BytR.news_ {w : World} {b off n : Nat} {zs : List Int} (h : BytR w (some ⟨b, off, none⟩) n zs) (hn : 0 < n) : ∀ j u, (u8s zs)[j]? = some u → w.cell? ((⟨b, off, none⟩ : Addr).add j) = some u := by
  intro j u hu
  have hj : j < n := by
    have := (List.getElem?_eq_some_iff.1 hu).1
    rw [u8s_length, h.len] at this
    exact this
  obtain ⟨b', off', e, hc⟩ := h.cell hn
  injection e with e
  injection e with e1 e2
  subst e1 e2
  rw [Addr.add_mid, hc j hj, ← hu]
  have := h.len
  simp only [u8s, List.getElem?_map, List.getD_eq_getElem?_getD]
  rw [List.getElem?_eq_getElem (by omega)]
  rfl
set_option maxRecDepth 100000 in
theorem lclone_any (b off n c : Nat) (zs : List Int) (w : World) (h : BytR w (some ⟨b, off, none⟩) n zs) (hn : 0 < n) (hn2 : n ≤ 1000) : Calls Tryd.prog 55 #[.slice (some ⟨b, off, none⟩) n c] w
    (fun e w' => ∃ g c', e = .returned (.slice (some ⟨g, 0, none⟩) n c') ∧ RowB w' 5 g n c' zs ∧ w.heap.size ≤ g ∧ Turned (fun _ => False) w w') := by
  have H := Lib.hid h
  have hl := Lib.hid h.len
  clear h
  have own : OwnV (w.alloc (.cells #[] 5)) (some ⟨w.heap.size, 0, none⟩) 0 0 [] := OwnV.of_row ⟨rfl, Nat.le_refl _, Nat.zero_le _, #[], Blk.new w 5 #[], rfl, rfl⟩
  have O := Lib.hid own
  clear own
  have heq : (binOp .eql 33 (.slice (some ⟨b, off, none⟩) n c) (.slice none 0 0)).run Tryd.prog w = .ok (.bool false) w := by rfl
  go_enter Tryd.func55, Tryd.ntmps55
  go_wp2_with (at_builtin; go_loud (refine wpList_app2 bytT rfl (.tmp 5) (.tmp 6) rfl O.out ⟨b, off, none⟩ n c zs hl.out (BytR.news_ (BytR.fresh_ H.out ((Turned.refl (fun _ => False) w).alloc _)) hn) hn (by omega) rfl rfl ?_; intro A' c' w4 ho4 hor4))
  go_ret
  rw [Nat.zero_add, List.nil_append] at ho4
  obtain ⟨g, rfl, r⟩ := ho4.some_ hn
  have ta := (Turned.refl (fun _ => False) w).alloc (.cells #[] 5)
  rcases hor4 with ⟨e, _, _, ht⟩ | ⟨e, ht⟩
  · injection e with e
    injection e with e
    subst e
    exact ⟨_, c', rfl, r, Nat.le_refl _, ta.trans ht (fun _ e => e) (fun k e => .inr (by injection e with e; injection e with e; omega))⟩
  · injection e with e
    injection e with e
    have := ta.size
    exact ⟨g, c', rfl, r, by omega, ta.trans ht (fun _ e => e) (fun _ e => e.elim)⟩
theorem BytR.take_ {w : World} {b off n p m : Nat} {zs : List Int} (h : BytR w (some ⟨b, off, none⟩) n zs) (hp : p + m ≤ n) : BytR w (some ⟨b, off + p, none⟩) m ((zs.drop p).take m) :=
  ⟨by rw [List.length_take, List.length_drop, h.len]; omega, Nat.le_trans (by omega) h.max, fun h0 => by
    obtain ⟨b', off', e, hc⟩ := h.cell (by omega)
    injection e with e
    injection e with e1 e2
    subst e1 e2
    refine ⟨_, _, rfl, fun j hj => ?_⟩
    have := hc (p + j) (by omega)
    rw [← Nat.add_assoc] at this
    rw [this, List.getD_eq_getElem?_getD, List.getD_eq_getElem?_getD, List.getElem?_take, if_pos hj, List.getElem?_drop]⟩
set_option maxRecDepth 100000 in
set_option maxHeartbeats 1000000 in
theorem lread_no (gb c : Nat) (number turn : Int) (zs : List Int) (w : World) (hr : RowB w 5 gb 512 c zs) (hzb : ∀ z ∈ zs, isByte z) (hbad : decN (zs.take 8) ≠ number ∨ decN ((zs.drop 8).take 4) < 1) :
    Calls Tryd.prog 30 #[.slice (some ⟨gb, 0, none⟩) 512 c, .int .i64 number, .int .i64 turn] w (RetNew (.tuple #[.pointer none, .bool false]) w) := by
  have HR := Lib.hid hr
  have hb := Lib.hid hzb
  clear hr hzb
  obtain ⟨hN, e0⟩ : ∃ x, decN (zs.take 8) = x := ⟨_, rfl⟩
  obtain ⟨hT, e1⟩ : ∃ x, decN ((zs.drop 8).take 4) = x := ⟨_, rfl⟩
  obtain ⟨hB, e2⟩ : ∃ x, decN ((zs.drop 12).take 2) = x := ⟨_, rfl⟩
  obtain ⟨hU, e3⟩ : ∃ x, decN ((zs.drop 14).take 2) = x := ⟨_, rfl⟩
  rw [e0, e1] at hbad
  go_enter Tryd.func30, Tryd.ntmps30
  go_wp2_with fail
  have q0 := lget_any (some ⟨gb, 0, none⟩) 512 c 0 8 zs w HR.out.bytR hb.out (by omega) (by omega) (by omega) HR.out.le (by omega)
  rw [List.drop_zero] at q0
  rw [e0] at q0
  refine q0.mono ?_
  clear q0
  rintro e w1 ⟨rfl, rfl⟩
  go_wp2_with fail
  have q1 := lget_any (some ⟨gb, 0, none⟩) 512 c 8 4 zs w HR.out.bytR hb.out (by omega) (by omega) (by omega) HR.out.le (by omega)
  rw [e1] at q1
  refine q1.mono ?_
  clear q1
  rintro e w1 ⟨rfl, rfl⟩
  go_wp2_with fail
  have q2 := lget_any (some ⟨gb, 0, none⟩) 512 c 12 2 zs w HR.out.bytR hb.out (by omega) (by omega) (by omega) HR.out.le (by omega)
  rw [e2] at q2
  refine q2.mono ?_
  clear q2
  rintro e w1 ⟨rfl, rfl⟩
  go_wp2_with fail
  have q3 := lget_any (some ⟨gb, 0, none⟩) 512 c 14 2 zs w HR.out.bytR hb.out (by omega) (by omega) (by omega) HR.out.le (by omega)
  rw [e3] at q3
  refine q3.mono ?_
  clear q3
  rintro e w1 ⟨rfl, rfl⟩
  by_cases h1 : hN = number
  · subst h1
    have h2 : hT < 1 := by
      rcases hbad with e | e
      · exact absurd rfl e
      · exact e
    clear hbad
    go_wp2_with fail
    go_ret2
    exact ⟨rfl, (Turned.refl (fun _ => False) w).alloc _⟩
  · have h2 : (hN != number) = true := by simpa using h1
    have h3 : (hN == number) = false := by simpa using h1
    clear hbad
    go_wp2_with fail
    go_ret2
    exact ⟨rfl, (Turned.refl (fun _ => False) w).alloc _⟩
/-- A sheet in memory: its cells and its body. -/
structure ShtIs (w : World) (g gb c : Nat) (num turn bef used : Int) (body : List Int) (safe : Int) (lost : Bool) : Prop where
  blk : Blk w g 74 (shtC num turn bef used (some ⟨gb, 0, none⟩) body.length c safe lost)
  bod : RowB w 5 gb body.length c body
theorem ShtIs.turned {W : Nat → Prop} {w w' : World} {g gb c : Nat} {num turn bef used safe : Int} {body : List Int} {lost : Bool} (h : ShtIs w g gb c num turn bef used body safe lost) (ht : Turned W w w') (h1 : ¬ W g) (h2 : ¬ W gb) : ShtIs w' g gb c num turn bef used body safe lost := ⟨h.blk.turned ht h1, h.bod.turned ht h2⟩
set_option maxRecDepth 100000 in
set_option maxHeartbeats 1000000 in
theorem lread_yes (gb c : Nat) (hN hT hB turn : Int) (hU : Nat) (zs : List Int) (w : World) (hr : RowB w 5 gb 512 c zs) (hzb : ∀ z ∈ zs, isByte z) (e0 : decN (zs.take 8) = hN) (e1 : decN ((zs.drop 8).take 4) = hT) (e2 : decN ((zs.drop 12).take 2) = hB) (e3 : decN ((zs.drop 14).take 2) = (hU : Int))
    (ht1 : 1 ≤ hT) (ht2 : hT < turn) (hb2 : hB ≤ 496) (hu1 : 0 < hU) (hu2 : hU ≤ 496) :
    Calls Tryd.prog 30 #[.slice (some ⟨gb, 0, none⟩) 512 c, .int .i64 hN, .int .i64 turn] w (fun e w' => ∃ g gb' c', e = .returned (.tuple #[.pointer (some ⟨g, 0, none⟩), .bool true]) ∧ ShtIs w' g gb' c' hN hT hB (hU : Int) ((zs.drop 16).take hU) (hU : Int) false ∧ w.heap.size ≤ g ∧ w.heap.size ≤ gb' ∧ g ≠ gb' ∧ Turned (fun _ => False) w w') := by
  have mixed : Tryd.prog.follows .mixedOrders = true := by kernel_rfl
  have HR := Lib.hid hr
  have hb := Lib.hid hzb
  have hlz := Lib.hid hr.len
  clear hr hzb
  go_enter Tryd.func30, Tryd.ntmps30
  go_wp2_with fail
  have q0 := lget_any (some ⟨gb, 0, none⟩) 512 c 0 8 zs w HR.out.bytR hb.out (by omega) (by omega) (by omega) HR.out.le (by omega)
  rw [List.drop_zero] at q0
  rw [e0] at q0
  refine q0.mono ?_
  clear q0
  rintro e w1 ⟨rfl, rfl⟩
  go_wp2_with fail
  have q1 := lget_any (some ⟨gb, 0, none⟩) 512 c 8 4 zs w HR.out.bytR hb.out (by omega) (by omega) (by omega) HR.out.le (by omega)
  rw [e1] at q1
  refine q1.mono ?_
  clear q1
  rintro e w1 ⟨rfl, rfl⟩
  go_wp2_with fail
  have q2 := lget_any (some ⟨gb, 0, none⟩) 512 c 12 2 zs w HR.out.bytR hb.out (by omega) (by omega) (by omega) HR.out.le (by omega)
  rw [e2] at q2
  refine q2.mono ?_
  clear q2
  rintro e w1 ⟨rfl, rfl⟩
  go_wp2_with fail
  have q3 := lget_any (some ⟨gb, 0, none⟩) 512 c 14 2 zs w HR.out.bytR hb.out (by omega) (by omega) (by omega) HR.out.le (by omega)
  rw [e3] at q3
  refine q3.mono ?_
  clear q3
  rintro e w1 ⟨rfl, rfl⟩
  clear e0 e1 e2 e3
  have hui : (hU : Int) ≤ 496 := by omega
  have hu0 : (0 : Int) < (hU : Int) := by omega
  have hcc := HR.out.le
  have hlc : (16 : Int) + (hU : Int) ≤ (c : Int) := by omega
  have hw16 : IntKind.i64.wrap (16 + (hU : Int)) = 16 + (hU : Int) := IntWalk.i64_in _ (by omega)
  have hc16 : ¬ c = 16 := by omega
  have hl0 : (0 : Int) ≤ 16 + (hU : Int) := by omega
  have hmx : max (16 + (hU : Int)) 0 = 16 + (hU : Int) := by omega
  have hl16 : (16 : Int) ≤ 16 + (hU : Int) := by omega
  have htn : (16 + (hU : Int)).toNat = 16 + hU := by omega
  have Bh := Lib.hid (Blk.new w 72 #[.int .i64 hN, .int .i64 hT, .int .i64 hB, .int .i64 (hU : Int)])
  have Th := Lib.hid ((Turned.refl (fun _ => False) w).alloc (.cells #[.int .i64 hN, .int .i64 hT, .int .i64 hB, .int .i64 (hU : Int)] 72))
  go_upto_region 4 with fail
  generalize w.alloc (.cells #[.int .i64 hN, .int .i64 hT, .int .i64 hB, .int .i64 (hU : Int)] 72) = wx at *
  obtain ⟨bh, hbh⟩ : ∃ bh, bh = w.heap.size := ⟨_, rfl⟩
  rw [← hbh] at Bh ⊢
  have hbh2 := Lib.hid hbh
  clear hbh
  refine wp_region_segs (fun w' => (w'.cell? ⟨bh, 0, none⟩ = some (.int .i64 hN) ∧ w'.cell? ⟨bh, 1, none⟩ = some (.int .i64 hT) ∧ w'.cell? ⟨bh, 2, none⟩ = some (.int .i64 hB) ∧ w'.cell? ⟨bh, 3, none⟩ = some (.int .i64 (hU : Int)))) (segT [0, 1, 2, 3, 4, 5] ++ segF [6] ++ segT [7] ++ segF [8] ++ segT [9]) mixed (by kernel_rfl) (fun _ _ _ _ _ h => h) ?_
  simp only [segT, segF, pickSegs, List.map_cons, List.map_nil, List.cons_append, List.nil_append, List.filterMap_cons, List.filterMap_nil, List.getElem?_cons_zero, List.getElem?_cons_succ, Option.map_some]
  have Bd := Lib.hid (Bh.out.drew)
  have Td := Lib.hid Th.out.drew
  clear Bh Th
  generalize wx.drew = v0 at *
  have hS := And.intro (Bd.out.cell 0) (And.intro (Bd.out.cell 1) (And.intro (Bd.out.cell 2) (Bd.out.cell 3)))
  have hS : (v0.cell? ⟨bh, 0, none⟩ = some (.int .i64 hN) ∧ v0.cell? ⟨bh, 1, none⟩ = some (.int .i64 hT) ∧ v0.cell? ⟨bh, 2, none⟩ = some (.int .i64 hB) ∧ v0.cell? ⟨bh, 3, none⟩ = some (.int .i64 (hU : Int))) := hS
  (refine wpSegs_take (v := ?_) hS rfl (fun w' hw => ?_) ?_; rotate_left; (obtain ⟨c0, c1, c2, c3⟩ := hw; (focus (go_simp; (try with_reducible rfl); done))); try simp only [Act.put, List.setIfInBounds_toArray, List.set_cons_zero, List.set_cons_succ])
  (refine wpSegs_take (v := ?_) hS rfl (fun w' hw => ?_) ?_; rotate_left; (obtain ⟨c0, c1, c2, c3⟩ := hw; (focus (go_simp; (try with_reducible rfl); done))); try simp only [Act.put, List.setIfInBounds_toArray, List.set_cons_zero, List.set_cons_succ])
  (refine wpSegs_take (v := ?_) hS rfl (fun w' hw => ?_) ?_; rotate_left; (obtain ⟨c0, c1, c2, c3⟩ := hw; (focus (go_simp; (try with_reducible rfl); done))); try simp only [Act.put, List.setIfInBounds_toArray, List.set_cons_zero, List.set_cons_succ])
  (refine wpSegs_take (v := ?_) hS rfl (fun w' hw => ?_) ?_; rotate_left; (obtain ⟨c0, c1, c2, c3⟩ := hw; (focus (go_simp; (try with_reducible rfl); done))); try simp only [Act.put, List.setIfInBounds_toArray, List.set_cons_zero, List.set_cons_succ])
  (refine wpSegs_take (v := ?_) hS rfl (fun w' hw => ?_) ?_; rotate_left; (obtain ⟨c0, c1, c2, c3⟩ := hw; (focus (go_simp; (try with_reducible rfl); done))); try simp only [Act.put, List.setIfInBounds_toArray, List.set_cons_zero, List.set_cons_succ])
  (refine wpSegs_take (v := ?_) hS rfl (fun w' hw => ?_) ?_; rotate_left; (obtain ⟨c0, c1, c2, c3⟩ := hw; (focus (go_simp; (try with_reducible rfl); done))); try simp only [Act.put, List.setIfInBounds_toArray, List.set_cons_zero, List.set_cons_succ])
  refine wpSegs_run rfl (fun K hK => ?_)
  go_simp
  refine (lclone_any gb 16 hU _ ((zs.drop 16).take hU) v0 (by have := BytR.take_ (p := 16) (m := hU) (HR.out.turned Td.out (fun e => e)).bytR (by omega); rw [Nat.zero_add] at this; exact this) hu1 (by omega)).mono ?_
  rintro e v1 ⟨g2, c2, rfl, r2, hg2, t2⟩
  have R2 := Lib.hid r2
  have T2 := Lib.hid (Td.out.and_ t2)
  have G2 := Lib.hid (show w.heap.size ≤ g2 by have := Td.out.size; omega)
  have hS := And.intro (cell_turned t2 hS.1 (fun e => e)) (And.intro (cell_turned t2 hS.2.1 (fun e => e)) (And.intro (cell_turned t2 hS.2.2.1 (fun e => e)) (cell_turned t2 hS.2.2.2 (fun e => e))))
  have hbl := Bd.out.lt
  have hb1 := Lib.hid (show bh < v1.heap.size by have := t2.size; omega)
  clear r2 hg2 t2 hbl
  refine hK.out _ _ hS ?_
  clear hK K
  try simp only [Act.put, List.setIfInBounds_toArray, List.set_cons_zero, List.set_cons_succ]
  (refine wpSegs_take (v := ?_) hS rfl (fun w' hw => ?_) ?_; rotate_left; (obtain ⟨c0, c1, c2, c3⟩ := hw; (focus (go_simp; (try with_reducible rfl); done))); try simp only [Act.put, List.setIfInBounds_toArray, List.set_cons_zero, List.set_cons_succ])
  refine wpSegs_run rfl (fun K hK => ?_)
  go_simp
  have tx := (Turned.refl (fun _ => False) v1).alloc (.cells #[.int .i64 hN, .int .i64 hT, .int .i64 hB, .int .i64 (hU : Int), .slice (some ⟨g2, 0, none⟩) hU c2, .int .i64 0, .bool false] 74)
  have hS := And.intro (cell_turned tx hS.1 (fun e => e)) (And.intro (cell_turned tx hS.2.1 (fun e => e)) (And.intro (cell_turned tx hS.2.2.1 (fun e => e)) (cell_turned tx hS.2.2.2 (fun e => e))))
  refine hK.out _ _ hS ?_
  clear hK K
  try simp only [Act.put, List.setIfInBounds_toArray, List.set_cons_zero, List.set_cons_succ]
  (refine wpSegs_take (v := ?_) hS rfl (fun w' hw => ?_) ?_; rotate_left; (obtain ⟨c0, c1, c2, c3⟩ := hw; (focus (go_simp; (try with_reducible rfl); done))); try simp only [Act.put, List.setIfInBounds_toArray, List.set_cons_zero, List.set_cons_succ])
  refine wpSegs_nil ?_
  clear hS
  go_wp2_with fail
  go_ret2
  have lhl : ((zs.drop 16).take hU).length = hU := by rw [List.length_take, List.length_drop, hlz.out]; omega
  have z1 := T2.out.size
  have z2 := R2.out.lt
  have z3 := G2.out
  refine ⟨v1.heap.size, g2, c2, rfl, ⟨by unfold shtC; rw [lhl]; exact Blk.new _ _ _, by rw [lhl]; exact R2.out.turned ((Turned.refl (fun _ => False) v1).alloc _) (fun e => e)⟩, z1, z3, by omega, T2.out.alloc _⟩
end Go.Proofs.YtfheikmjjijdpaaDoor

