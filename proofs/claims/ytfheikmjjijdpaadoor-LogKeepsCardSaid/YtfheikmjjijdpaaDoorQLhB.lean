/-
  The sector of a full sheet (496 bytes). No condition but that.
-/
import Derived.Test.YtfheikmjjijdpaaDoorQLgB
namespace Go.Proofs.YtfheikmjjijdpaaDoor
open Go.RowKit Go.Maps
set_option linter.unusedVariables false
set_option linter.unusedSimpArgs false

theorem run_bytes_zeros0 {P : Program} {w : World} {S U tn ty : TypeId} {kn : IntKind} (B : BytT P S U) (htn : P.underlying tn = some (.int kn)) (A : Option Addr) (n cap : Nat) (hle : n ≤ cap) :
    (Builtin.append_ #[S, tn] ty #[.slice A n cap, .int .i64 0]).run P w = .ok (.slice A n cap) w := by
  obtain ⟨i, hi, hz0, hz1, hz2⟩ := info_parts B.info
  have hw : IntKind.i64.wrap 0 = 0 := by decide
  simp [Builtin.append_, run_underlying B.und, run_underlying htn, sizeOf, typeInfo, zeroValue, hi, hz0, hz1, hz2, asInt, asIntOf, hw, hle]
  cases A <;> simp [storeCells]
theorem wpList_bytes_zeros0 {P : Program} {w : World} {S U tn : TypeId} {kn : IntKind} {ops : Array Oper} {rest : List Oper} {o : Oper} {a : Act} {Q : Exit → Act → World → Prop} (B : BytT P S U) (htn : P.underlying tn = some (.int kn)) (hgd : o.guard = none) (s x : Operand)
    (ho : o.op = .call { callee := .builtin .append, args := #[s, x], argTypes := #[S, tn] }) (A : Option Addr) (n cap : Nat) (hle : n ≤ cap) (hs : a.eval s = .slice A n cap) (hx : a.eval x = .int .i64 0)
    (h : wpList P ops Q rest (a.put o.dst (.slice A n cap)) w) : wpList P ops Q (o :: rest) a w :=
  Lib.wpList_append_run w hgd s x S tn ho _ _ hs hx _ _ (run_bytes_zeros0 (ty := o.type) B htn A n cap hle) h
set_option maxRecDepth 100000 in
set_option maxHeartbeats 1000000 in
theorem lbytes_full (g gb c : Nat) (num turn bef : Int) (body : List Int) (w : World) (h : (w.cell? ⟨g, 0, none⟩ = some (.int .i64 num) ∧ w.cell? ⟨g, 1, none⟩ = some (.int .i64 turn) ∧ w.cell? ⟨g, 2, none⟩ = some (.int .i64 bef) ∧ w.cell? ⟨g, 4, none⟩ = some (.slice (some ⟨gb, 0, none⟩) 496 c))) (hr : RowB w 5 gb 496 c body) (hg : g < w.heap.size) :
    Calls Tryd.prog 64 #[.pointer (some ⟨g, 0, none⟩)] w (fun e w' => ∃ g2 c2, e = .returned (.slice (some ⟨g2, 0, none⟩) 512 c2) ∧ RowB w' 5 g2 512 c2 (shtL num turn bef body) ∧ w.heap.size ≤ g2 ∧ Turned (fun _ => False) w w') := by
  have hn : 0 < 496 := by omega
  have mixed : Tryd.prog.follows .mixedOrders = true := by kernel_rfl
  have hS0 := Lib.hid h
  have HR := Lib.hid hr
  have hgb := Lib.hid hr.lt
  have hbl := Lib.hid hr.len
  obtain ⟨B, hB⟩ : ∃ B, B = w.heap.size := ⟨_, rfl⟩
  have HB := Lib.hid hB
  have hgB := Lib.hid (show g < B by omega)
  clear h hr hB hg
  go_enter Tryd.func64, Tryd.ntmps64
  go_wp2_with fail
  refine wp_region_segs (fun w' => (w'.cell? ⟨g, 0, none⟩ = some (.int .i64 num) ∧ w'.cell? ⟨g, 1, none⟩ = some (.int .i64 turn) ∧ w'.cell? ⟨g, 2, none⟩ = some (.int .i64 bef) ∧ w'.cell? ⟨g, 4, none⟩ = some (.slice (some ⟨gb, 0, none⟩) 496 c))) (segT [0, 1, 2, 3, 4, 6, 7, 8, 9, 10, 12, 13, 14, 15, 16, 18, 19, 20, 21, 22] ++ segF [5, 11, 17, 23] ++ segT [24]) mixed (by kernel_rfl) (fun _ _ _ _ _ h => h) ?_
  simp only [segT, segF, pickSegs, List.map_cons, List.map_nil, List.cons_append, List.nil_append, List.filterMap_cons, List.filterMap_nil, List.getElem?_cons_zero, List.getElem?_cons_succ, Option.map_some]
  have hS := hS0.out.imp (fun e => (show w.drew.cell? ⟨g, 0, none⟩ = some (.int .i64 num) from e)) (fun e => (show w.drew.cell? ⟨g, 1, none⟩ = some (.int .i64 turn) ∧ w.drew.cell? ⟨g, 2, none⟩ = some (.int .i64 bef) ∧ w.drew.cell? ⟨g, 4, none⟩ = some (.slice (some ⟨gb, 0, none⟩) 496 c) from e))
  have T0 := Lib.hid (show Turned (fun i => B ≤ i) w w.drew from (Turned.refl _ w).drew)
  have hBd := Lib.hid (show B ≤ w.drew.heap.size by have := HB.out; exact Nat.le_of_eq this)
  generalize w.drew = v0 at *
  (refine wpSegs_take (v := ?_) hS rfl (fun w' hw => ?_) ?_; rotate_left; (obtain ⟨c0, c1, c2, c3⟩ := hw; (focus (go_simp; (try with_reducible rfl); done))); try simp only [Act.put, List.setIfInBounds_toArray, List.set_cons_zero, List.set_cons_succ])
  (refine wpSegs_take (v := ?_) hS rfl (fun w' hw => ?_) ?_; rotate_left; (obtain ⟨c0, c1, c2, c3⟩ := hw; (focus (go_simp; (try with_reducible rfl); done))); try simp only [Act.put, List.setIfInBounds_toArray, List.set_cons_zero, List.set_cons_succ])
  (refine wpSegs_take (v := ?_) hS rfl (fun w' hw => ?_) ?_; rotate_left; (obtain ⟨c0, c1, c2, c3⟩ := hw; (focus (go_simp; (try with_reducible rfl); done))); try simp only [Act.put, List.setIfInBounds_toArray, List.set_cons_zero, List.set_cons_succ])
  (refine wpSegs_take (v := ?_) hS rfl (fun w' hw => ?_) ?_; rotate_left; (obtain ⟨c0, c1, c2, c3⟩ := hw; (focus (go_simp; (try with_reducible rfl); done))); try simp only [Act.put, List.setIfInBounds_toArray, List.set_cons_zero, List.set_cons_succ])
  (refine wpSegs_take (v := ?_) hS rfl (fun w' hw => ?_) ?_; rotate_left; (obtain ⟨c0, c1, c2, c3⟩ := hw; (focus (go_simp; (try with_reducible rfl); done))); try simp only [Act.put, List.setIfInBounds_toArray, List.set_cons_zero, List.set_cons_succ])
  (refine wpSegs_take (v := ?_) hS rfl (fun w' hw => ?_) ?_; rotate_left; (obtain ⟨c0, c1, c2, c3⟩ := hw; (focus (go_simp; (try with_reducible rfl); done))); try simp only [Act.put, List.setIfInBounds_toArray, List.set_cons_zero, List.set_cons_succ])
  (refine wpSegs_take (v := ?_) hS rfl (fun w' hw => ?_) ?_; rotate_left; (obtain ⟨c0, c1, c2, c3⟩ := hw; (focus (go_simp; (try with_reducible rfl); done))); try simp only [Act.put, List.setIfInBounds_toArray, List.set_cons_zero, List.set_cons_succ])
  (refine wpSegs_take (v := ?_) hS rfl (fun w' hw => ?_) ?_; rotate_left; (obtain ⟨c0, c1, c2, c3⟩ := hw; (focus (go_simp; (try with_reducible rfl); done))); try simp only [Act.put, List.setIfInBounds_toArray, List.set_cons_zero, List.set_cons_succ])
  (refine wpSegs_take (v := ?_) hS rfl (fun w' hw => ?_) ?_; rotate_left; (obtain ⟨c0, c1, c2, c3⟩ := hw; (focus (go_simp; (try with_reducible rfl); done))); try simp only [Act.put, List.setIfInBounds_toArray, List.set_cons_zero, List.set_cons_succ])
  (refine wpSegs_take (v := ?_) hS rfl (fun w' hw => ?_) ?_; rotate_left; (obtain ⟨c0, c1, c2, c3⟩ := hw; (focus (go_simp; (try with_reducible rfl); done))); try simp only [Act.put, List.setIfInBounds_toArray, List.set_cons_zero, List.set_cons_succ])
  (refine wpSegs_take (v := ?_) hS rfl (fun w' hw => ?_) ?_; rotate_left; (obtain ⟨c0, c1, c2, c3⟩ := hw; (focus (go_simp; (try with_reducible rfl); done))); try simp only [Act.put, List.setIfInBounds_toArray, List.set_cons_zero, List.set_cons_succ])
  (refine wpSegs_take (v := ?_) hS rfl (fun w' hw => ?_) ?_; rotate_left; (obtain ⟨c0, c1, c2, c3⟩ := hw; (focus (go_simp; (try with_reducible rfl); done))); try simp only [Act.put, List.setIfInBounds_toArray, List.set_cons_zero, List.set_cons_succ])
  (refine wpSegs_take (v := ?_) hS rfl (fun w' hw => ?_) ?_; rotate_left; (obtain ⟨c0, c1, c2, c3⟩ := hw; (focus (go_simp; (try with_reducible rfl); done))); try simp only [Act.put, List.setIfInBounds_toArray, List.set_cons_zero, List.set_cons_succ])
  (refine wpSegs_take (v := ?_) hS rfl (fun w' hw => ?_) ?_; rotate_left; (obtain ⟨c0, c1, c2, c3⟩ := hw; (focus (go_simp; (try with_reducible rfl); done))); try simp only [Act.put, List.setIfInBounds_toArray, List.set_cons_zero, List.set_cons_succ])
  (refine wpSegs_take (v := ?_) hS rfl (fun w' hw => ?_) ?_; rotate_left; (obtain ⟨c0, c1, c2, c3⟩ := hw; (focus (go_simp; (try with_reducible rfl); done))); try simp only [Act.put, List.setIfInBounds_toArray, List.set_cons_zero, List.set_cons_succ])
  (refine wpSegs_take (v := ?_) hS rfl (fun w' hw => ?_) ?_; rotate_left; (obtain ⟨c0, c1, c2, c3⟩ := hw; (focus (go_simp; (try with_reducible rfl); done))); try simp only [Act.put, List.setIfInBounds_toArray, List.set_cons_zero, List.set_cons_succ])
  (refine wpSegs_take (v := ?_) hS rfl (fun w' hw => ?_) ?_; rotate_left; (obtain ⟨c0, c1, c2, c3⟩ := hw; (focus (go_simp; (try with_reducible rfl); done))); try simp only [Act.put, List.setIfInBounds_toArray, List.set_cons_zero, List.set_cons_succ])
  (refine wpSegs_take (v := ?_) hS rfl (fun w' hw => ?_) ?_; rotate_left; (obtain ⟨c0, c1, c2, c3⟩ := hw; (focus (go_simp; (try with_reducible rfl); done))); try simp only [Act.put, List.setIfInBounds_toArray, List.set_cons_zero, List.set_cons_succ])
  (refine wpSegs_take (v := ?_) hS rfl (fun w' hw => ?_) ?_; rotate_left; (obtain ⟨c0, c1, c2, c3⟩ := hw; (focus (go_simp; (try with_reducible rfl); done))); try simp only [Act.put, List.setIfInBounds_toArray, List.set_cons_zero, List.set_cons_succ])
  (refine wpSegs_take (v := ?_) hS rfl (fun w' hw => ?_) ?_; rotate_left; (obtain ⟨c0, c1, c2, c3⟩ := hw; (focus (go_simp; (try with_reducible rfl); done))); try simp only [Act.put, List.setIfInBounds_toArray, List.set_cons_zero, List.set_cons_succ])
  refine wpSegs_run rfl (fun K hK => ?_)
  go_simp
  refine (lput_any none 0 0 B [] num 8 v0 (OwnV.nil v0) (fun g e => by cases e) hBd.out (by omega) (by omega)).mono ?_
  rintro e v1 ⟨A1, c1, rfl, o1, g1, t1⟩
  have hl1 : ([] ++ be 8 num).length = 8 := by simp [be_length]
  rw [hl1] at o1 ⊢
  have O1 := Lib.hid o1
  have G1 := Lib.hid g1
  have T1 := Lib.hid (T0.out.trans (W := fun i => B ≤ i) t1 (fun _ e => e) (fun _ e => .inl e))
  have hS := And.intro (cell_turned t1 hS.1 (fun e => absurd (show B ≤ g from e) (by have := hgB.out; omega))) (And.intro (cell_turned t1 hS.2.1 (fun e => absurd (show B ≤ g from e) (by have := hgB.out; omega))) (And.intro (cell_turned t1 hS.2.2.1 (fun e => absurd (show B ≤ g from e) (by have := hgB.out; omega))) (cell_turned t1 hS.2.2.2 (fun e => absurd (show B ≤ g from e) (by have := hgB.out; omega)))))
  clear o1 g1 t1 hl1
  refine hK.out _ _ hS ?_
  clear hK K
  try simp only [Act.put, List.setIfInBounds_toArray, List.set_cons_zero, List.set_cons_succ]
  refine wpSegs_run rfl (fun K hK => ?_)
  go_simp
  refine (lput_any A1 8 c1 B (be 8 num) turn 4 v1 O1.out G1.out (by have := HB.out; have := (T1.out).size; omega) (by omega) (by omega)).mono ?_
  rintro e v2 ⟨A2, c2, rfl, o2, g2, t2⟩
  have hl2 : (be 8 num ++ be 4 turn).length = 12 := by simp [be_length]
  rw [hl2] at o2 ⊢
  have O2 := Lib.hid o2
  have G2 := Lib.hid g2
  have T2 := Lib.hid (T1.out.trans (W := fun i => B ≤ i) t2 (fun _ e => e) (fun _ e => .inl e))
  have hS := And.intro (cell_turned t2 hS.1 (fun e => absurd (show B ≤ g from e) (by have := hgB.out; omega))) (And.intro (cell_turned t2 hS.2.1 (fun e => absurd (show B ≤ g from e) (by have := hgB.out; omega))) (And.intro (cell_turned t2 hS.2.2.1 (fun e => absurd (show B ≤ g from e) (by have := hgB.out; omega))) (cell_turned t2 hS.2.2.2 (fun e => absurd (show B ≤ g from e) (by have := hgB.out; omega)))))
  clear o2 g2 t2 hl2
  refine hK.out _ _ hS ?_
  clear hK K
  try simp only [Act.put, List.setIfInBounds_toArray, List.set_cons_zero, List.set_cons_succ]
  refine wpSegs_run rfl (fun K hK => ?_)
  go_simp
  refine (lput_any A2 12 c2 B (be 8 num ++ be 4 turn) bef 2 v2 O2.out G2.out (by have := HB.out; have := (T2.out).size; omega) (by omega) (by omega)).mono ?_
  rintro e v3 ⟨A3, c3, rfl, o3, g3, t3⟩
  have hl3 : (be 8 num ++ be 4 turn ++ be 2 bef).length = 14 := by simp [be_length]
  rw [hl3] at o3 ⊢
  have O3 := Lib.hid o3
  have G3 := Lib.hid g3
  have T3 := Lib.hid (T2.out.trans (W := fun i => B ≤ i) t3 (fun _ e => e) (fun _ e => .inl e))
  have hS := And.intro (cell_turned t3 hS.1 (fun e => absurd (show B ≤ g from e) (by have := hgB.out; omega))) (And.intro (cell_turned t3 hS.2.1 (fun e => absurd (show B ≤ g from e) (by have := hgB.out; omega))) (And.intro (cell_turned t3 hS.2.2.1 (fun e => absurd (show B ≤ g from e) (by have := hgB.out; omega))) (cell_turned t3 hS.2.2.2 (fun e => absurd (show B ≤ g from e) (by have := hgB.out; omega)))))
  clear o3 g3 t3 hl3
  refine hK.out _ _ hS ?_
  clear hK K
  try simp only [Act.put, List.setIfInBounds_toArray, List.set_cons_zero, List.set_cons_succ]
  refine wpSegs_run rfl (fun K hK => ?_)
  go_simp
  refine (lput_any A3 14 c3 B ((be 8 num ++ be 4 turn) ++ be 2 bef) ((496 : Nat) : Int) 2 v3 O3.out G3.out (by have := HB.out; have := (T3.out).size; omega) (by omega) (by omega)).mono ?_
  rintro e v4 ⟨A4, c4, rfl, o4, g4, t4⟩
  have hl4 : ((be 8 num ++ be 4 turn) ++ be 2 bef ++ be 2 ((496 : Nat) : Int)).length = 16 := by simp [be_length]
  rw [hl4] at o4 ⊢
  have O4 := Lib.hid o4
  have G4 := Lib.hid g4
  have T4 := Lib.hid (T3.out.trans (W := fun i => B ≤ i) t4 (fun _ e => e) (fun _ e => .inl e))
  have hS := And.intro (cell_turned t4 hS.1 (fun e => absurd (show B ≤ g from e) (by have := hgB.out; omega))) (And.intro (cell_turned t4 hS.2.1 (fun e => absurd (show B ≤ g from e) (by have := hgB.out; omega))) (And.intro (cell_turned t4 hS.2.2.1 (fun e => absurd (show B ≤ g from e) (by have := hgB.out; omega))) (cell_turned t4 hS.2.2.2 (fun e => absurd (show B ≤ g from e) (by have := hgB.out; omega)))))
  clear o4 g4 t4 hl4
  refine hK.out _ _ hS ?_
  clear hK K
  try simp only [Act.put, List.setIfInBounds_toArray, List.set_cons_zero, List.set_cons_succ]
  (refine wpSegs_take (v := ?_) hS rfl (fun w' hw => ?_) ?_; rotate_left; (obtain ⟨c0, c1, c2, c3⟩ := hw; (focus (go_simp; (try with_reducible rfl); done))); try simp only [Act.put, List.setIfInBounds_toArray, List.set_cons_zero, List.set_cons_succ])
  refine wpSegs_nil ?_
  have x4 := hS.2.2.2
  clear hS
  have R4 := Lib.hid (HR.out.turned T4.out (fun e => by have := hgb.out; have := HB.out; omega))
  have hw4 := Lib.hid (show w.heap.size ≤ v4.heap.size from T4.out.size)
  go_wp2_with (first | (at_builtin; refine wpList_app2 bytT rfl (.tmp 28) (.tmp 32) rfl O4.out ⟨gb, 0, none⟩ 496 c body hbl.out (news_of_row R4.out) hn (by omega) rfl rfl ?_; intro A5 c5 v5 ho5 hor5; obtain ⟨T5, G5⟩ := app_from T4.out (by have := HB.out; omega) G4.out (Turned.refl (fun _ => False) v4) hor5; have hT5 := Lib.hid T5; have hG5 := Lib.hid G5; clear hor5 T5 G5; obtain ⟨g5, e5, r5⟩ := ho5.some_ (by omega); subst e5; have R5 := Lib.hid r5; clear ho5 r5) | (at_builtin; go_loud (refine wpList_bytes_zeros0 bytT Tryd.underlying3 rfl (.tmp 34) (.tmp 37) rfl (some ⟨g5, 0, none⟩) 512 c5 R5.out.le rfl (by first | rfl | (simp [Act.eval, hz]; done) | (show Value.int .i64 _ = _; congr 1; omega)) ?_)))
  go_ret
  have r6 := R5.out
  have hB5 := hG5.out g5 rfl
  refine ⟨g5, c5, rfl, ?_, ?_, ?_⟩
  · unfold shtL
    rw [hbl.out, Nat.sub_self, List.replicate_zero, List.append_nil]
    exact r6
  · have := HB.out; omega
  · exact (Turned.refl (fun _ => False) w).trans hT5.out (fun _ e => e) (fun k e => .inr (by have h1 := HB.out; have h2 : B ≤ k := e; omega))
end Go.Proofs.YtfheikmjjijdpaaDoor

