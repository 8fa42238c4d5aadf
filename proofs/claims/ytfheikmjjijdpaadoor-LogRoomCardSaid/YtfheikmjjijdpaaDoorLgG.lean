/-
  log.write: the last sheet goes onto the disk. Conditions: a disk that is up and lies ahead of the log; the sheet wants to be written, and has from 1 to 495 bytes.
-/
import Derived.Test.YtfheikmjjijdpaaDoorLgF
namespace Go.Proofs.YtfheikmjjijdpaaDoor
open Go.RowKit Go.Maps
set_option linter.unusedVariables false
set_option linter.unusedSimpArgs false

theorem LogW.far {w w' : World} {B : Nat} {X : LgS} {W : Nat → Prop} (h : LogW w B X) (ht : Turned W w w') (hW : ∀ i, B ≤ i → ¬ W i) : LogW w' B X :=
  ⟨h.blk.turned ht (hW _ h.bL), h.shs.turned ht (hW _ h.bS), h.psl, h.lsn.turned ht (fun q e => hW q (h.bl q e)), h.sht.turned ht (hW _ h.bg) (hW _ h.bb), h.bL, h.bS, h.bg, h.bb, h.bl, h.cB, h.kB, h.nB, h.hB, h.lB⟩
theorem shtL_byte {num turn bef : Int} {body : List Int} (hb : ∀ z ∈ body, isByte z) : ∀ z ∈ shtL num turn bef body, isByte z := by
  intro z hz
  unfold shtL at hz
  rcases List.mem_append.1 hz with h | h
  · rcases List.mem_append.1 h with h | h
    · rcases List.mem_append.1 h with h | h
      · rcases List.mem_append.1 h with h | h
        · rcases List.mem_append.1 h with h | h
          · exact be_byte _ _ z h
          · exact be_byte _ _ z h
        · exact be_byte _ _ z h
      · exact be_byte _ _ z h
    · exact hb z h
  · rw [List.eq_of_mem_replicate h]; exact ⟨by decide, by decide⟩
theorem shtC_set1 (num turn turn' bef used safe : Int) (A : Option Addr) (n c : Nat) (lost : Bool) : (shtC num turn bef used A n c safe lost).setIfInBounds 1 (.int .i64 turn') = shtC num turn' bef used A n c safe lost := by unfold shtC; simp only [List.setIfInBounds_toArray, List.set_cons_zero, List.set_cons_succ]
/-- The last sheet's turn is set. -/
theorem LogW.set1 {w : World} {B : Nat} {X : LgS} (h : LogW w B X) (t : Int) : LogW (w.setCell ⟨X.g, 1, none⟩ (.int .i64 t)) B { X with tn := t } := by
  obtain ⟨p1, p2, p3, p4, p5, p6⟩ := h.apart
  have ts := (Turned.refl (fun i => i = X.g) w).setCell (p := ⟨X.g, 1, none⟩) (.inl rfl) (.int .i64 t)
  have hset := h.sht.blk.set_ 1 (.int .i64 t)
  rw [shtC_set1] at hset
  exact ⟨h.blk.turned ts (fun e => p2 e), h.shs.turned ts (fun e => p4 e), h.psl, h.lsn.turned ts (fun q e e2 => (h.lsnApart e).2.2.1 e2), ⟨hset, h.sht.bod.turned ts (fun e => p6 e.symm)⟩, h.bL, h.bS, h.bg, h.bb, h.bl, h.cB, h.kB, h.nB, h.hB, h.lB⟩
def LWr (B ms mo : Nat) (X : LgS) (A : DA) (w : World) (e : Ending) (w' : World) : Prop := e = .returned (.int .i64 (codeOf (tickD A.armed))) ∧ IsDisk w' X.d ms mo (A.write (X.first + X.num % X.count) (shtL X.num X.turn X.bef X.body)) ∧ LogW w' B { X with tn := X.turn } ∧ Turned (fun i => i = X.g ∨ dskW X.d ms mo i) w w'
set_option maxRecDepth 100000 in
set_option maxHeartbeats 2000000 in
theorem lwrite_any (B ms mo : Nat) (X : LgS) (A : DA) (w : World) (h : LogW w B X) (hD : IsDisk w X.d ms mo A) (hdn : A.down = false) (hdB : ∀ i, dskW X.d ms mo i → i < B) (hBw : B ≤ w.heap.size) (hwant : X.safe ≠ (X.body.length : Int)) (hn1 : 0 < X.body.length) (hn2 : X.body.length < 496) (hb : ∀ z ∈ X.body, isByte z) (hf : 0 ≤ X.first) (hs : X.first + X.count ≤ A.n) :
    Calls Tryd.prog 46 #[.pointer (some ⟨X.L, 0, none⟩), .pointer (some ⟨X.g, 0, none⟩)] w (LWr B ms mo X A w) := by
  obtain ⟨L, d, Sb, g, gb, first, count, turn, oldest, k, cS, ps, Al, cl, ls, num, tn, bef, used, safe, body, c, lost⟩ := X
  simp only at *
  have hmx := hD.n2
  have hcb : 1 ≤ count ∧ count ≤ 10000 := h.cB
  have hnb : 0 ≤ num ∧ num ≤ 9007199254740000 := h.nB
  have mixed : Tryd.prog.follows .mixedOrders = true := by kernel_rfl
  obtain ⟨n, hn⟩ : ∃ n, n = body.length := ⟨_, rfl⟩
  rw [← hn] at hwant hn1 hn2
  have HN := Lib.hid hn
  clear hn
  have H := Lib.hid h
  have HD := Lib.hid hD
  have HdB := Lib.hid hdB
  have HB := Lib.hid hBw
  have Hb := Lib.hid hb
  have Hdn := Lib.hid hdn
  clear h hD hdB hBw hb hdn
  have e1 : (safe == (n : Int)) = false := by simpa using hwant
  have x4 : w.cell? ⟨g, 4, none⟩ = some (.slice (some ⟨gb, 0, none⟩) n c) := by have h9 : w.cell? ⟨g, 4, none⟩ = some (.slice (some ⟨gb, 0, none⟩) body.length c) := H.out.sht.blk.cell 4; rw [← HN.out] at h9; exact h9
  have x5 : w.cell? ⟨g, 5, none⟩ = some (.int .i64 safe) := H.out.sht.blk.cell 5
  go_enter Tryd.func46, Tryd.ntmps46
  go_wp2_with fail
  go_quiet (fail)
  have TQ := Lib.hid ((Turned.refl (fun _ => False) w).drewN nq)
  have H2 := Lib.hid (H.out.fresh TQ.out)
  have HD2 := Lib.hid (HD.out.fresh TQ.out)
  clear x4 x5 e1
  generalize w.drewN nq = w1 at *
  have x3 : w1.cell? ⟨L, 3, none⟩ = some (.int .i64 turn) := H2.out.blk.cell 3
  have x1 : w1.cell? ⟨g, 1, none⟩ = some (.int .i64 tn) := H2.out.sht.blk.cell 1
  have xf : w1.frozen? ⟨g, 1, none⟩ = false := H2.out.sht.blk.frozen 1
  go_wp2_with fail
  have HS := Lib.hid (H2.out.set1 turn)
  have hgB : B ≤ g := H2.out.bg
  have HD3 := Lib.hid (HD2.out.turned ((Turned.refl (fun i => i = g) w1).setCell (p := ⟨g, 1, none⟩) (.inl rfl) (.int .i64 turn)) (fun q hq e => by have h1 := HdB.out q hq; have h2 : q = g := e; omega))
  have T3 := Lib.hid ((TQ.out.mono (W' := fun i => i = g ∨ dskW d ms mo i) (fun _ e => e.elim)).setCell (p := ⟨g, 1, none⟩) (.inl (.inl rfl)) (.int .i64 turn))
  clear x3 x1 xf H H2 HD HD2 TQ
  generalize w1.setCell ⟨g, 1, none⟩ (.int .i64 turn) = w2 at *
  refine wp_region_segs (fun w' => (w'.cell? ⟨L, 0, none⟩ = some (.pointer (some ⟨d, 0, none⟩)) ∧ w'.cell? ⟨g, 0, none⟩ = some (.int .i64 num))) (segT [0, 1, 2, 3, 4, 5, 6, 7, 8, 9, 11] ++ segF [10, 12, 13] ++ segT [14]) mixed (by kernel_rfl) (fun _ _ _ _ _ h => h) ?_
  simp only [segT, segF, pickSegs, List.map_cons, List.map_nil, List.cons_append, List.nil_append, List.filterMap_cons, List.filterMap_nil, List.getElem?_cons_zero, List.getElem?_cons_succ, Option.map_some]
  have td := (Turned.refl (fun _ => False) w2).drew
  have HS := Lib.hid (HS.out.fresh td)
  have HD3 := Lib.hid (HD3.out.fresh td)
  have T3 := Lib.hid T3.out.drew
  clear td
  generalize w2.drew = v0 at *
  have hS : (v0.cell? ⟨L, 0, none⟩ = some (.pointer (some ⟨d, 0, none⟩)) ∧ v0.cell? ⟨g, 0, none⟩ = some (.int .i64 num)) := And.intro (HS.out.blk.cell 0) (HS.out.sht.blk.cell 0)
  (refine wpSegs_take (v := ?_) hS rfl (fun w' hw => ?_) ?_; rotate_left; (obtain ⟨c0, c1⟩ := hw; (focus (go_simp; (try with_reducible rfl); done))); try simp only [Act.put, List.setIfInBounds_toArray, List.set_cons_zero, List.set_cons_succ])
  (refine wpSegs_take (v := ?_) hS rfl (fun w' hw => ?_) ?_; rotate_left; (obtain ⟨c0, c1⟩ := hw; (focus (go_simp; (try with_reducible rfl); done))); try simp only [Act.put, List.setIfInBounds_toArray, List.set_cons_zero, List.set_cons_succ])
  (refine wpSegs_take (v := ?_) hS rfl (fun w' hw => ?_) ?_; rotate_left; (obtain ⟨c0, c1⟩ := hw; (focus (go_simp; (try with_reducible rfl); done))); try simp only [Act.put, List.setIfInBounds_toArray, List.set_cons_zero, List.set_cons_succ])
  (refine wpSegs_take (v := ?_) hS rfl (fun w' hw => ?_) ?_; rotate_left; (obtain ⟨c0, c1⟩ := hw; (focus (go_simp; (try with_reducible rfl); done))); try simp only [Act.put, List.setIfInBounds_toArray, List.set_cons_zero, List.set_cons_succ])
  (refine wpSegs_take (v := ?_) hS rfl (fun w' hw => ?_) ?_; rotate_left; (obtain ⟨c0, c1⟩ := hw; (focus (go_simp; (try with_reducible rfl); done))); try simp only [Act.put, List.setIfInBounds_toArray, List.set_cons_zero, List.set_cons_succ])
  (refine wpSegs_take (v := ?_) hS rfl (fun w' hw => ?_) ?_; rotate_left; (obtain ⟨c0, c1⟩ := hw; (focus (go_simp; (try with_reducible rfl); done))); try simp only [Act.put, List.setIfInBounds_toArray, List.set_cons_zero, List.set_cons_succ])
  (refine wpSegs_take (v := ?_) hS rfl (fun w' hw => ?_) ?_; rotate_left; (obtain ⟨c0, c1⟩ := hw; (focus (go_simp; (try with_reducible rfl); done))); try simp only [Act.put, List.setIfInBounds_toArray, List.set_cons_zero, List.set_cons_succ])
  (refine wpSegs_take (v := ?_) hS rfl (fun w' hw => ?_) ?_; rotate_left; (obtain ⟨c0, c1⟩ := hw; (focus (go_simp; (try with_reducible rfl); done))); try simp only [Act.put, List.setIfInBounds_toArray, List.set_cons_zero, List.set_cons_succ])
  (refine wpSegs_take (v := ?_) hS rfl (fun w' hw => ?_) ?_; rotate_left; (obtain ⟨c0, c1⟩ := hw; (focus (go_simp; (try with_reducible rfl); done))); try simp only [Act.put, List.setIfInBounds_toArray, List.set_cons_zero, List.set_cons_succ])
  (refine wpSegs_take (v := ?_) hS rfl (fun w' hw => ?_) ?_; rotate_left; (obtain ⟨c0, c1⟩ := hw; (focus (go_simp; (try with_reducible rfl); done))); try simp only [Act.put, List.setIfInBounds_toArray, List.set_cons_zero, List.set_cons_succ])
  (refine wpSegs_take (v := ?_) hS rfl (fun w' hw => ?_) ?_; rotate_left; (obtain ⟨c0, c1⟩ := hw; (focus (go_simp; (try with_reducible rfl); done))); try simp only [Act.put, List.setIfInBounds_toArray, List.set_cons_zero, List.set_cons_succ])
  refine wpSegs_run rfl (fun K hK => ?_)
  go_simp
  refine (lsector_any L first count num v0 (HS.out.blk.cell 1) (HS.out.blk.cell 2) ⟨hf, by omega⟩ ⟨hcb.1, hcb.2⟩ ⟨hnb.1, by omega⟩).mono ?_
  rintro e v1 ⟨rfl, t1⟩
  have HS := Lib.hid (HS.out.fresh t1)
  have HD3 := Lib.hid (HD3.out.fresh t1)
  have T3 := Lib.hid (T3.out.trans (W := fun i => i = g ∨ dskW d ms mo i) t1 (fun _ e => e) (fun _ e => e.elim))
  have hS := And.intro (cell_turned t1 hS.1 (fun e => e)) (cell_turned t1 hS.2 (fun e => e))
  clear t1
  refine hK.out _ _ hS ?_
  clear hK K
  try simp only [Act.put, List.setIfInBounds_toArray, List.set_cons_zero, List.set_cons_succ]
  refine wpSegs_run rfl (fun K hK => ?_)
  go_simp
  have hbo : RowB v1 5 gb n c body := by have h9 : RowB v1 5 gb body.length c body := HS.out.sht.bod; rw [← HN.out] at h9; exact h9
  have hx4 : v1.cell? ⟨g, 4, none⟩ = some (.slice (some ⟨gb, 0, none⟩) n c) := by have h9 : v1.cell? ⟨g, 4, none⟩ = some (.slice (some ⟨gb, 0, none⟩) body.length c) := HS.out.sht.blk.cell 4; rw [← HN.out] at h9; exact h9
  refine (lbytes_any g gb n c num turn bef body v1 ⟨HS.out.sht.blk.cell 0, HS.out.sht.blk.cell 1, HS.out.sht.blk.cell 2, hx4⟩ hbo HS.out.sht.blk.lt hn1 hn2).mono ?_
  clear hbo hx4
  rintro e v2 ⟨g2, c2, rfl, r2, _, t2⟩
  have R2 := Lib.hid r2
  have HS := Lib.hid (HS.out.fresh t2)
  have HD3 := Lib.hid (HD3.out.fresh t2)
  have T3 := Lib.hid (T3.out.trans (W := fun i => i = g ∨ dskW d ms mo i) t2 (fun _ e => e) (fun _ e => e.elim))
  have hS := And.intro (cell_turned t2 hS.1 (fun e => e)) (cell_turned t2 hS.2 (fun e => e))
  clear t2 r2
  refine hK.out _ _ hS ?_
  clear hK K
  try simp only [Act.put, List.setIfInBounds_toArray, List.set_cons_zero, List.set_cons_succ]
  have hm0 := Int.emod_nonneg num (show count ≠ 0 by omega)
  have hm1 := Int.emod_lt_of_pos num (show 0 < count by omega)
  refine wpSegs_run rfl (fun K hK => ?_)
  go_simp
  refine (write_ok d ms mo A (first + num % count) g2 c2 _ v2 HD3.out Hdn.out (by omega) (by omega) R2.out (shtL_byte Hb.out)).mono ?_
  rintro e v3 ⟨rfl, d3, t3⟩
  have HD4 := Lib.hid d3
  have HS4 := Lib.hid (HS.out.far t3 (fun i hi e => by have := HdB.out i e; omega))
  have T4 := Lib.hid (T3.out.trans (W := fun i => i = g ∨ dskW d ms mo i) t3 (fun _ e => e) (fun _ e => .inl (.inr e)))
  have hgd : ¬ dskW d ms mo g := fun e => by have := HdB.out g e; omega
  have hLd : ¬ dskW d ms mo L := fun e => by have h1 := HdB.out L e; have h2 : B ≤ L := HS.out.bL; omega
  have hS := And.intro (cell_turned t3 hS.1 hLd) (cell_turned t3 hS.2 hgd)
  clear t3 d3
  refine hK.out _ _ hS ?_
  clear hK K
  try simp only [Act.put, List.setIfInBounds_toArray, List.set_cons_zero, List.set_cons_succ]
  (refine wpSegs_take (v := ?_) hS rfl (fun w' hw => ?_) ?_; rotate_left; (obtain ⟨c0, c1⟩ := hw; (focus (go_simp; (try with_reducible rfl); done))); try simp only [Act.put, List.setIfInBounds_toArray, List.set_cons_zero, List.set_cons_succ])
  refine wpSegs_nil ?_
  clear hS
  go_wp2_with fail
  go_ret
  exact ⟨rfl, HD4.out, HS4.out, T4.out⟩
end Go.Proofs.YtfheikmjjijdpaaDoor
