/-
  log.write in a log of many sheets: a sheet of up to 496 bytes; one that wants no writing. Conditions: a disk that is up, apart from the log.
-/
import Derived.Test.YtfheikmjjijdpaaDoorQLhU
import Derived.Test.YtfheikmjjijdpaaDoorQLhB
namespace Go.Proofs.YtfheikmjjijdpaaDoor
open Go.RowKit Go.Maps Go.Proofs
set_option linter.unusedVariables false
set_option linter.unusedSimpArgs false

theorem lbytes_all (g gb n c : Nat) (num turn bef : Int) (body : List Int) (w : World) (h : (w.cell? ⟨g, 0, none⟩ = some (.int .i64 num) ∧ w.cell? ⟨g, 1, none⟩ = some (.int .i64 turn) ∧ w.cell? ⟨g, 2, none⟩ = some (.int .i64 bef) ∧ w.cell? ⟨g, 4, none⟩ = some (.slice (some ⟨gb, 0, none⟩) n c))) (hr : RowB w 5 gb n c body) (hg : g < w.heap.size) (hn : 0 < n) (hn2 : n ≤ 496) :
    Calls Tryd.prog 64 #[.pointer (some ⟨g, 0, none⟩)] w (fun e w' => ∃ g2 c2, e = .returned (.slice (some ⟨g2, 0, none⟩) 512 c2) ∧ RowB w' 5 g2 512 c2 (shtL num turn bef body) ∧ w.heap.size ≤ g2 ∧ Turned (fun _ => False) w w') := by
  by_cases h4 : n < 496
  · exact lbytes_any g gb n c num turn bef body w h hr hg hn h4
  · obtain rfl : n = 496 := by omega
    exact lbytes_full g gb c num turn bef body w h hr hg
/-- What log.write takes of a log and a sheet. -/
structure WrS (w : World) (X : LgM) (s : ShM) : Prop where
  blk : Blk w X.L 65 (logC X.d X.first X.count X.turn X.oldest (some ⟨X.S, X.So, none⟩) X.shs.length X.cS X.Al X.ls.length X.cl)
  sht : ShtIs w s.g s.gb s.c s.num s.tn s.bef s.used s.body s.safe s.lost
theorem WrS.far {w w' : World} {X : LgM} {s : ShM} {W : Nat → Prop} (h : WrS w X s) (ht : Turned W w w') (h1 : ¬ W X.L) (h2 : ¬ W s.g) (h3 : ¬ W s.gb) : WrS w' X s := ⟨h.blk.turned ht h1, h.sht.turned ht h2 h3⟩
theorem WrS.fresh {w w' : World} {X : LgM} {s : ShM} (h : WrS w X s) (ht : Turned (fun _ => False) w w') : WrS w' X s := h.far ht (fun e => e) (fun e => e) (fun e => e)
theorem WrS.set1 {w : World} {X : LgM} {s : ShM} (h : WrS w X s) (t : Int) : WrS (w.setCell ⟨s.g, 1, none⟩ (.int .i64 t)) X { s with tn := t } := by
  have ts := (Turned.refl (fun i => i = s.g) w).setCell (p := ⟨s.g, 1, none⟩) (.inl rfl) (.int .i64 t)
  have hset := h.sht.blk.set_ 1 (.int .i64 t)
  rw [shtC_set1] at hset
  obtain ⟨cb, hb, _⟩ := h.sht.bod.row
  refine ⟨h.blk.turned ts (fun e => ?_), ⟨hset, h.sht.bod.turned ts (fun e => ?_)⟩⟩
  · have b := h.blk; rw [e] at b; exact absurd (Blk.inj b h.sht.blk).2 (by decide)
  · rw [e] at hb; exact absurd (Blk.inj hb h.sht.blk).2 (by decide)
def HWr (ms mo : Nat) (X : LgM) (s : ShM) (A : DA) (w : World) (e : Ending) (w' : World) : Prop := e = .returned (.int .i64 (codeOf (tickD A.armed))) ∧ IsDisk w' X.d ms mo (A.write (X.first + s.num % X.count) (shtL s.num X.turn s.bef s.body)) ∧ WrS w' X { s with tn := X.turn } ∧ Turned (fun i => i = s.g ∨ dskW X.d ms mo i) w w'
set_option maxRecDepth 100000 in
theorem hwrite_no (X : LgM) (s : ShM) (w : World) (h : WrS w X s) (hwant : s.safe = (s.body.length : Int)) (hl : s.lost = false) :
    Calls Tryd.prog 46 #[.pointer (some ⟨X.L, 0, none⟩), .pointer (some ⟨s.g, 0, none⟩)] w (RetNew (.int .i64 0) w) := by
  obtain ⟨g, gb, c, num, tn, bef, used, body, safe, lost⟩ := s
  simp only at *
  subst hl hwant
  have x4 : w.cell? ⟨g, 4, none⟩ = some (.slice (some ⟨gb, 0, none⟩) body.length c) := h.sht.blk.cell 4
  have x5 : w.cell? ⟨g, 5, none⟩ = some (.int .i64 (body.length : Int)) := h.sht.blk.cell 5
  have x6 : w.cell? ⟨g, 6, none⟩ = some (.bool false) := h.sht.blk.cell 6
  clear h
  generalize body.length = n at *
  go_enter Tryd.func46, Tryd.ntmps46
  go_wp2_with fail
  go_quiet (fail)
  go_wp2_with fail
  go_ret
  exact ⟨rfl, (Turned.refl (fun _ => False) w).drewN nq⟩
set_option maxRecDepth 100000 in
set_option maxHeartbeats 2000000 in
theorem hwrite_yes (ms mo : Nat) (X : LgM) (s : ShM) (A : DA) (w : World) (h : WrS w X s) (hD : IsDisk w X.d ms mo A) (hdn : A.down = false) (hdB : ∀ i, dskW X.d ms mo i → i ≠ X.L ∧ i ≠ s.g ∧ i ≠ s.gb) (hwant : s.safe ≠ (s.body.length : Int)) (hn1 : 0 < s.body.length) (hn2 : s.body.length ≤ 496) (hb : ∀ z ∈ s.body, isByte z) (hf : 0 ≤ X.first) (hs : X.first + X.count ≤ A.n) (hcb : 1 ≤ X.count ∧ X.count ≤ 10000) (hnb : 0 ≤ s.num ∧ s.num ≤ 9007199254740000) :
    Calls Tryd.prog 46 #[.pointer (some ⟨X.L, 0, none⟩), .pointer (some ⟨s.g, 0, none⟩)] w (HWr ms mo X s A w) := by
  obtain ⟨L, d, first, count, turn, oldest, Sb, So, cS, Al, cl, ls, shs⟩ := X
  obtain ⟨g, gb, c, num, tn, bef, used, body, safe, lost⟩ := s
  simp only at *
  have hmx := hD.n2
  have mixed : Tryd.prog.follows .mixedOrders = true := by kernel_rfl
  obtain ⟨n, hn⟩ : ∃ n, n = body.length := ⟨_, rfl⟩
  rw [← hn] at hwant hn1 hn2
  have HN := Lib.hid hn
  clear hn
  have H := Lib.hid h
  have HD := Lib.hid hD
  have HdB := Lib.hid hdB
  have Hb := Lib.hid hb
  have Hdn := Lib.hid hdn
  clear h hD hdB hb hdn
  have e1 : (safe == (n : Int)) = false := by simpa using hwant
  have x4 : w.cell? ⟨g, 4, none⟩ = some (.slice (some ⟨gb, 0, none⟩) n c) := by have h9 : w.cell? ⟨g, 4, none⟩ = some (.slice (some ⟨gb, 0, none⟩) body.length c) := H.out.sht.blk.cell 4; rw [← HN.out] at h9; exact h9
  have x5 : w.cell? ⟨g, 5, none⟩ = some (.int .i64 safe) := H.out.sht.blk.cell 5
  go_enter Tryd.func46, Tryd.ntmps46
  go_wp2_with fail
  go_quiet (fail)
  have TQ := Lib.hid ((Turned.refl (fun _ => False) w).drewN nq)
  have H2 := Lib.hid (H.out.fresh TQ.out)
  have HD2 := Lib.hid (HD.out.fresh TQ.out)
  clear x4 x5 e1
  generalize w.drewN nq = w1 at *
  have x3 : w1.cell? ⟨L, 3, none⟩ = some (.int .i64 turn) := H2.out.blk.cell 3
  have x1 : w1.cell? ⟨g, 1, none⟩ = some (.int .i64 tn) := H2.out.sht.blk.cell 1
  have xf : w1.frozen? ⟨g, 1, none⟩ = false := H2.out.sht.blk.frozen 1
  go_wp2_with fail
  have HS := Lib.hid (H2.out.set1 turn)
  have HD3 := Lib.hid (HD2.out.turned ((Turned.refl (fun i => i = g) w1).setCell (p := ⟨g, 1, none⟩) (.inl rfl) (.int .i64 turn)) (fun q hq e => (HdB.out q hq).2.1 e))
  have T3 := Lib.hid ((TQ.out.mono (W' := fun i => i = g ∨ dskW d ms mo i) (fun _ e => e.elim)).setCell (p := ⟨g, 1, none⟩) (.inl (.inl rfl)) (.int .i64 turn))
  clear x3 x1 xf H H2 HD HD2 TQ
  generalize w1.setCell ⟨g, 1, none⟩ (.int .i64 turn) = w2 at *
  refine wp_region_segs (fun w' => (w'.cell? ⟨L, 0, none⟩ = some (.pointer (some ⟨d, 0, none⟩)) ∧ w'.cell? ⟨g, 0, none⟩ = some (.int .i64 num))) (segT [0, 1, 2, 3, 4, 5, 6, 7, 8, 9, 11] ++ segF [10, 12, 13] ++ segT [14]) mixed (by kernel_rfl) (fun _ _ _ _ _ h => h) ?_
  simp only [segT, segF, pickSegs, List.map_cons, List.map_nil, List.cons_append, List.nil_append, List.filterMap_cons, List.filterMap_nil, List.getElem?_cons_zero, List.getElem?_cons_succ, Option.map_some]
  have td := (Turned.refl (fun _ => False) w2).drew
  have HS := Lib.hid (HS.out.fresh td)
  have HD3 := Lib.hid (HD3.out.fresh td)
  have T3 := Lib.hid T3.out.drew
  clear td
  generalize w2.drew = v0 at *
  have hS : (v0.cell? ⟨L, 0, none⟩ = some (.pointer (some ⟨d, 0, none⟩)) ∧ v0.cell? ⟨g, 0, none⟩ = some (.int .i64 num)) := And.intro (HS.out.blk.cell 0) (HS.out.sht.blk.cell 0)
  (refine wpSegs_take (v := ?_) hS rfl (fun w' hw => ?_) ?_; rotate_left; (obtain ⟨c0, c1⟩ := hw; (focus (go_simp; (try with_reducible rfl); done))); try simp only [Act.put, List.setIfInBounds_toArray, List.set_cons_zero, List.set_cons_succ])
  (refine wpSegs_take (v := ?_) hS rfl (fun w' hw => ?_) ?_; rotate_left; (obtain ⟨c0, c1⟩ := hw; (focus (go_simp; (try with_reducible rfl); done))); try simp only [Act.put, List.setIfInBounds_toArray, List.set_cons_zero, List.set_cons_succ])
  (refine wpSegs_take (v := ?_) hS rfl (fun w' hw => ?_) ?_; rotate_left; (obtain ⟨c0, c1⟩ := hw; (focus (go_simp; (try with_reducible rfl); done))); try simp only [Act.put, List.setIfInBounds_toArray, List.set_cons_zero, List.set_cons_succ])
  (refine wpSegs_take (v := ?_) hS rfl (fun w' hw => ?_) ?_; rotate_left; (obtain ⟨c0, c1⟩ := hw; (focus (go_simp; (try with_reducible rfl); done))); try simp only [Act.put, List.setIfInBounds_toArray, List.set_cons_zero, List.set_cons_succ])
  (refine wpSegs_take (v := ?_) hS rfl (fun w' hw => ?_) ?_; rotate_left; (obtain ⟨c0, c1⟩ := hw; (focus (go_simp; (try with_reducible rfl); done))); try simp only [Act.put, List.setIfInBounds_toArray, List.set_cons_zero, List.set_cons_succ])
  (refine wpSegs_take (v := ?_) hS rfl (fun w' hw => ?_) ?_; rotate_left; (obtain ⟨c0, c1⟩ := hw; (focus (go_simp; (try with_reducible rfl); done))); try simp only [Act.put, List.setIfInBounds_toArray, List.set_cons_zero, List.set_cons_succ])
  (refine wpSegs_take (v := ?_) hS rfl (fun w' hw => ?_) ?_; rotate_left; (obtain ⟨c0, c1⟩ := hw; (focus (go_simp; (try with_reducible rfl); done))); try simp only [Act.put, List.setIfInBounds_toArray, List.set_cons_zero, List.set_cons_succ])
  (refine wpSegs_take (v := ?_) hS rfl (fun w' hw => ?_) ?_; rotate_left; (obtain ⟨c0, c1⟩ := hw; (focus (go_simp; (try with_reducible rfl); done))); try simp only [Act.put, List.setIfInBounds_toArray, List.set_cons_zero, List.set_cons_succ])
  (refine wpSegs_take (v := ?_) hS rfl (fun w' hw => ?_) ?_; rotate_left; (obtain ⟨c0, c1⟩ := hw; (focus (go_simp; (try with_reducible rfl); done))); try simp only [Act.put, List.setIfInBounds_toArray, List.set_cons_zero, List.set_cons_succ])
  (refine wpSegs_take (v := ?_) hS rfl (fun w' hw => ?_) ?_; rotate_left; (obtain ⟨c0, c1⟩ := hw; (focus (go_simp; (try with_reducible rfl); done))); try simp only [Act.put, List.setIfInBounds_toArray, List.set_cons_zero, List.set_cons_succ])
  (refine wpSegs_take (v := ?_) hS rfl (fun w' hw => ?_) ?_; rotate_left; (obtain ⟨c0, c1⟩ := hw; (focus (go_simp; (try with_reducible rfl); done))); try simp only [Act.put, List.setIfInBounds_toArray, List.set_cons_zero, List.set_cons_succ])
  refine wpSegs_run rfl (fun K hK => ?_)
  go_simp
  refine (lsector_any L first count num v0 (HS.out.blk.cell 1) (HS.out.blk.cell 2) ⟨hf, by omega⟩ ⟨hcb.1, hcb.2⟩ ⟨hnb.1, by omega⟩).mono ?_
  rintro e v1 ⟨rfl, t1⟩
  have HS := Lib.hid (HS.out.fresh t1)
  have HD3 := Lib.hid (HD3.out.fresh t1)
  have T3 := Lib.hid (T3.out.trans (W := fun i => i = g ∨ dskW d ms mo i) t1 (fun _ e => e) (fun _ e => e.elim))
  have hS := And.intro (cell_turned t1 hS.1 (fun e => e)) (cell_turned t1 hS.2 (fun e => e))
  clear t1
  refine hK.out _ _ hS ?_
  clear hK K
  try simp only [Act.put, List.setIfInBounds_toArray, List.set_cons_zero, List.set_cons_succ]
  refine wpSegs_run rfl (fun K hK => ?_)
  go_simp
  have hbo : RowB v1 5 gb n c body := by have h9 : RowB v1 5 gb body.length c body := HS.out.sht.bod; rw [← HN.out] at h9; exact h9
  have hx4 : v1.cell? ⟨g, 4, none⟩ = some (.slice (some ⟨gb, 0, none⟩) n c) := by have h9 : v1.cell? ⟨g, 4, none⟩ = some (.slice (some ⟨gb, 0, none⟩) body.length c) := HS.out.sht.blk.cell 4; rw [← HN.out] at h9; exact h9
  refine (lbytes_all g gb n c num turn bef body v1 ⟨HS.out.sht.blk.cell 0, HS.out.sht.blk.cell 1, HS.out.sht.blk.cell 2, hx4⟩ hbo HS.out.sht.blk.lt hn1 hn2).mono ?_
  clear hbo hx4
  rintro e v2 ⟨g2, c2, rfl, r2, _, t2⟩
  have R2 := Lib.hid r2
  have HS := Lib.hid (HS.out.fresh t2)
  have HD3 := Lib.hid (HD3.out.fresh t2)
  have T3 := Lib.hid (T3.out.trans (W := fun i => i = g ∨ dskW d ms mo i) t2 (fun _ e => e) (fun _ e => e.elim))
  have hS := And.intro (cell_turned t2 hS.1 (fun e => e)) (cell_turned t2 hS.2 (fun e => e))
  clear t2 r2
  refine hK.out _ _ hS ?_
  clear hK K
  try simp only [Act.put, List.setIfInBounds_toArray, List.set_cons_zero, List.set_cons_succ]
  have hm0 := Int.emod_nonneg num (show count ≠ 0 by omega)
  have hm1 := Int.emod_lt_of_pos num (show 0 < count by omega)
  refine wpSegs_run rfl (fun K hK => ?_)
  go_simp
  refine (write_ok d ms mo A (first + num % count) g2 c2 _ v2 HD3.out Hdn.out (by omega) (by omega) R2.out (shtL_byte Hb.out)).mono ?_
  rintro e v3 ⟨rfl, d3, t3⟩
  have HD4 := Lib.hid d3
  have HS4 := Lib.hid (HS.out.far t3 (fun e => (HdB.out L e).1 rfl) (fun e => (HdB.out g e).2.1 rfl) (fun e => (HdB.out gb e).2.2 rfl))
  have T4 := Lib.hid (T3.out.trans (W := fun i => i = g ∨ dskW d ms mo i) t3 (fun _ e => e) (fun _ e => .inl (.inr e)))
  have hgd : ¬ dskW d ms mo g := fun e => (HdB.out g e).2.1 rfl
  have hLd : ¬ dskW d ms mo L := fun e => (HdB.out L e).1 rfl
  have hS := And.intro (cell_turned t3 hS.1 hLd) (cell_turned t3 hS.2 hgd)
  clear t3 d3
  refine hK.out _ _ hS ?_
  clear hK K
  try simp only [Act.put, List.setIfInBounds_toArray, List.set_cons_zero, List.set_cons_succ]
  (refine wpSegs_take (v := ?_) hS rfl (fun w' hw => ?_) ?_; rotate_left; (obtain ⟨c0, c1⟩ := hw; (focus (go_simp; (try with_reducible rfl); done))); try simp only [Act.put, List.setIfInBounds_toArray, List.set_cons_zero, List.set_cons_succ])
  refine wpSegs_nil ?_
  clear hS
  go_wp2_with fail
  go_ret
  exact ⟨rfl, HD4.out, HS4.out, T4.out⟩
end Go.Proofs.YtfheikmjjijdpaaDoor

