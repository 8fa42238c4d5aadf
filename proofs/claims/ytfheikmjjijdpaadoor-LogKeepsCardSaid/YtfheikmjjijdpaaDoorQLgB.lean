/-
  log.put: a number in so many bytes behind a row of one's own; sheet.bytes: a sheet's sector. Conditions: numbers in range; a sheet's body has bytes, at most 496.
-/
import Derived.Test.YtfheikmjjijdpaaDoorQApZ
namespace Go.Proofs.YtfheikmjjijdpaaDoor
open Go.RowKit Go.Maps
set_option linter.unusedVariables false
set_option linter.unusedSimpArgs false

theorem app_from {B : Nat} {w0 wr w2 w4 : World} {A A4 : Option Addr} {c c4 : Nat} (ht : Turned (fun g => B ≤ g) w0 wr) (hBw : B ≤ w0.heap.size) (hA : ∀ g, A = some ⟨g, 0, none⟩ → B ≤ g) (t2 : Turned (fun _ => False) wr w2)
    (hor : (A4 = A ∧ c4 = c ∧ A ≠ none ∧ Turned (fun g => A = some ⟨g, 0, none⟩) w2 w4) ∨ (A4 = some ⟨w2.heap.size, 0, none⟩ ∧ Turned (fun _ => False) w2 w4)) : Turned (fun g => B ≤ g) w0 w4 ∧ ∀ g, A4 = some ⟨g, 0, none⟩ → B ≤ g := by
  have t02 := ht.trans (W := fun g => B ≤ g) t2 (fun _ e => e) (fun _ e => e.elim)
  rcases hor with ⟨rfl, _, _, h4⟩ | ⟨rfl, h4⟩
  · exact ⟨t02.trans h4 (fun _ e => e) (fun g e => .inl (hA g e)), hA⟩
  · exact ⟨t02.trans h4 (fun _ e => e) (fun _ e => e.elim), fun g e => by injection e with e; injection e with e; have := t02.size; omega⟩
theorem one_news (w : World) (x : Int) : ∀ j u, (u8s [x])[j]? = some u → (w.alloc (.cells #[.int .u8 x] 5)).cell? ((⟨w.heap.size, 0, none⟩ : Addr).add j) = some u := by
  intro j u hu
  rw [Addr.add_mid, Nat.zero_add, (Blk.new w 5 _).cell]
  simpa [u8s] using hu
/-- What put leaves: all that turned lies from B on. -/
def LPut (B : Nat) (zs : List Int) (w : World) (e : Ending) (w' : World) : Prop := ∃ A c, e = .returned (.slice A zs.length c) ∧ OwnV w' A zs.length c zs ∧ (∀ g, A = some ⟨g, 0, none⟩ → B ≤ g) ∧ Turned (fun g => B ≤ g) w w'
def LPutRel (B : Nat) (zs : List Int) (m : Int) (k n : Nat) (w : World) (v i : Value) (wr : World) : Prop :=
  ∃ (t : Nat) (A : Option Addr) (c : Nat), t ≤ k ∧ i = .int .i64 ((k : Int) - 1 - (t : Int)) ∧ v = .slice A (n + t) c ∧ OwnV wr A (n + t) c (zs ++ beTo k m t) ∧ (∀ g, A = some ⟨g, 0, none⟩ → B ≤ g) ∧ Turned (fun g => B ≤ g) w wr
set_option maxRecDepth 100000 in
set_option maxHeartbeats 1000000 in
theorem lput_any (A : Option Addr) (n c B : Nat) (zs : List Int) (m : Int) (k : Nat) (w : World) (h : OwnV w A n c zs) (hA : ∀ g, A = some ⟨g, 0, none⟩ → B ≤ g) (hB : B ≤ w.heap.size) (hk : k ≤ 8) (hn : n ≤ 1000) :
    Calls Tryd.prog 81 #[.slice A n c, .int .i64 m, .int .i64 k] w (LPut B (zs ++ be k m) w) := by
  have hlz := Lib.hid h.len
  have hst := Lib.hid (show LPutRel B zs m k n w (.slice A n c) (.int .i64 ((k : Int) - 1)) w from ⟨0, A, c, Nat.zero_le _, by simp, rfl, by rw [show beTo k m 0 = [] from rfl, List.append_nil]; exact h, hA, Turned.refl _ _⟩)
  have hki : (k : Int) ≤ 8 := by omega
  clear h hA
  go_enter Tryd.func81, Tryd.ntmps81
  go_wp2_with fail
  go_loopw [0, 7] (fun v i wr => LPutRel B zs m k n w v i wr) (fun _ i _ => (intOf i + 1).toNat)
  case atStart => exact hst.out
  case round =>
    obtain ⟨t, A2, c2, ht, rfl, rfl, ho, hg, hT⟩ := hrel
    have ho' := Lib.hid ho
    have hg' := Lib.hid hg
    have hT' := Lib.hid hT
    clear ho hg hT hst
    by_cases hlt : t < k
    · obtain ⟨q, hq⟩ : ∃ q : Nat, q = k - 1 - t := ⟨_, rfl⟩
      have hqi : (k : Int) - 1 - (t : Int) = (q : Int) := by omega
      have hq7 : q ≤ 7 := by omega
      have hx := Lib.hid (show beAt k m t = m / 2 ^ (8 * q) % 256 by unfold beAt; rw [hq])
      rw [hqi]
      clear hq
      have hm0 : (0 : Int) ≤ (q : Int) := by omega
      have h8 : (0 : Int) ≤ 8 * (q : Int) := by omega
      have h8b : 8 * (q : Int) ≤ 56 := by omega
      have hw8 : IntKind.i64.wrap (8 * (q : Int)) = 8 * (q : Int) := IntWalk.i64_in _ (by omega)
      go_wp2_with (at_builtin; go_loud (refine wpList_app2 bytT rfl (.tmp 14) (.tmp 20) rfl (ho'.out.turned ((Turned.refl (fun _ => False) wr).alloc _) (fun _ _ e => e)) ⟨wr.heap.size, 0, none⟩ 1 1 [m / 2 ^ (8 * q) % 256] rfl (one_news _ _) (by omega) (by omega) rfl rfl ?_; intro A4 c4 w4 ho4 hor4))
      rw [← hx.out] at ho4
      obtain ⟨T4, G4⟩ := app_from hT'.out hB hg'.out ((Turned.refl (fun _ => False) wr).alloc _) hor4
      have hR := Lib.hid (show LPutRel B zs m k n w (.slice A4 (n + t + 1) c4) (.int .i64 ((k : Int) - 1 - ((t + 1 : Nat) : Int))) w4 from ⟨t + 1, A4, c4, hlt, rfl, by rw [Nat.add_assoc], by rw [beTo_succ, ← List.append_assoc, ← Nat.add_assoc]; exact ho4, G4, T4⟩)
      have hmv := Lib.hid (show Value.int .i64 ((q : Int) - 1) = .int .i64 ((k : Int) - 1 - ((t + 1 : Nat) : Int)) by congr 1; omega)
      clear ho4 hor4 T4 G4
      go_roundw
      case rel =>
        first
        | (rw [hmv.out]; exact hR.out)
        | ((repeat apply Exists.intro); exact ⟨by rw [hmv.out]; exact hR.out, rfl⟩)
      case measure => simp [intOf] <;> omega
    · obtain rfl : k = t := by omega
      have hneg : (k : Int) - 1 - (k : Int) = -1 := by omega
      rw [hneg]
      go_wp2_with fail
      go_ret
      have hl : (zs ++ be k m).length = n + k := by rw [List.length_append, be_length, hlz.out]
      exact ⟨A2, c2, by rw [hl]; rfl, by rw [hl]; exact ho'.out, hg'.out, hT'.out⟩
/-- A sheet's sector. -/
def shtL (num turn bef : Int) (body : List Int) : List Int := (((be 8 num ++ be 4 turn) ++ be 2 bef) ++ be 2 (body.length : Int)) ++ body ++ List.replicate (496 - body.length) 0
set_option maxRecDepth 100000 in
set_option maxHeartbeats 1000000 in
theorem lbytes_any (g gb n c : Nat) (num turn bef : Int) (body : List Int) (w : World) (h : (w.cell? ⟨g, 0, none⟩ = some (.int .i64 num) ∧ w.cell? ⟨g, 1, none⟩ = some (.int .i64 turn) ∧ w.cell? ⟨g, 2, none⟩ = some (.int .i64 bef) ∧ w.cell? ⟨g, 4, none⟩ = some (.slice (some ⟨gb, 0, none⟩) n c))) (hr : RowB w 5 gb n c body) (hg : g < w.heap.size) (hn : 0 < n) (hn2 : n < 496) :
    Calls Tryd.prog 64 #[.pointer (some ⟨g, 0, none⟩)] w (fun e w' => ∃ g2 c2, e = .returned (.slice (some ⟨g2, 0, none⟩) 512 c2) ∧ RowB w' 5 g2 512 c2 (shtL num turn bef body) ∧ w.heap.size ≤ g2 ∧ Turned (fun _ => False) w w') := by
  have mixed : Tryd.prog.follows .mixedOrders = true := by kernel_rfl
  have hS0 := Lib.hid h
  have HR := Lib.hid hr
  have hgb := Lib.hid hr.lt
  have hbl := Lib.hid hr.len
  obtain ⟨B, hB⟩ : ∃ B, B = w.heap.size := ⟨_, rfl⟩
  have HB := Lib.hid hB
  have hgB := Lib.hid (show g < B by omega)
  clear h hr hB hg
  go_enter Tryd.func64, Tryd.ntmps64
  go_wp2_with fail
  refine wp_region_segs (fun w' => (w'.cell? ⟨g, 0, none⟩ = some (.int .i64 num) ∧ w'.cell? ⟨g, 1, none⟩ = some (.int .i64 turn) ∧ w'.cell? ⟨g, 2, none⟩ = some (.int .i64 bef) ∧ w'.cell? ⟨g, 4, none⟩ = some (.slice (some ⟨gb, 0, none⟩) n c))) (segT [0, 1, 2, 3, 4, 6, 7, 8, 9, 10, 12, 13, 14, 15, 16, 18, 19, 20, 21, 22] ++ segF [5, 11, 17, 23] ++ segT [24]) mixed (by kernel_rfl) (fun _ _ _ _ _ h => h) ?_
  simp only [segT, segF, pickSegs, List.map_cons, List.map_nil, List.cons_append, List.nil_append, List.filterMap_cons, List.filterMap_nil, List.getElem?_cons_zero, List.getElem?_cons_succ, Option.map_some]
  have hS := hS0.out.imp (fun e => (show w.drew.cell? ⟨g, 0, none⟩ = some (.int .i64 num) from e)) (fun e => (show w.drew.cell? ⟨g, 1, none⟩ = some (.int .i64 turn) ∧ w.drew.cell? ⟨g, 2, none⟩ = some (.int .i64 bef) ∧ w.drew.cell? ⟨g, 4, none⟩ = some (.slice (some ⟨gb, 0, none⟩) n c) from e))
  have T0 := Lib.hid (show Turned (fun i => B ≤ i) w w.drew from (Turned.refl _ w).drew)
  have hBd := Lib.hid (show B ≤ w.drew.heap.size by have := HB.out; exact Nat.le_of_eq this)
  generalize w.drew = v0 at *
  (refine wpSegs_take (v := ?_) hS rfl (fun w' hw => ?_) ?_; rotate_left; (obtain ⟨c0, c1, c2, c3⟩ := hw; (focus (go_simp; (try with_reducible rfl); done))); try simp only [Act.put, List.setIfInBounds_toArray, List.set_cons_zero, List.set_cons_succ])
  (refine wpSegs_take (v := ?_) hS rfl (fun w' hw => ?_) ?_; rotate_left; (obtain ⟨c0, c1, c2, c3⟩ := hw; (focus (go_simp; (try with_reducible rfl); done))); try simp only [Act.put, List.setIfInBounds_toArray, List.set_cons_zero, List.set_cons_succ])
  (refine wpSegs_take (v := ?_) hS rfl (fun w' hw => ?_) ?_; rotate_left; (obtain ⟨c0, c1, c2, c3⟩ := hw; (focus (go_simp; (try with_reducible rfl); done))); try simp only [Act.put, List.setIfInBounds_toArray, List.set_cons_zero, List.set_cons_succ])
  (refine wpSegs_take (v := ?_) hS rfl (fun w' hw => ?_) ?_; rotate_left; (obtain ⟨c0, c1, c2, c3⟩ := hw; (focus (go_simp; (try with_reducible rfl); done))); try simp only [Act.put, List.setIfInBounds_toArray, List.set_cons_zero, List.set_cons_succ])
  (refine wpSegs_take (v := ?_) hS rfl (fun w' hw => ?_) ?_; rotate_left; (obtain ⟨c0, c1, c2, c3⟩ := hw; (focus (go_simp; (try with_reducible rfl); done))); try simp only [Act.put, List.setIfInBounds_toArray, List.set_cons_zero, List.set_cons_succ])
  (refine wpSegs_take (v := ?_) hS rfl (fun w' hw => ?_) ?_; rotate_left; (obtain ⟨c0, c1, c2, c3⟩ := hw; (focus (go_simp; (try with_reducible rfl); done))); try simp only [Act.put, List.setIfInBounds_toArray, List.set_cons_zero, List.set_cons_succ])
  (refine wpSegs_take (v := ?_) hS rfl (fun w' hw => ?_) ?_; rotate_left; (obtain ⟨c0, c1, c2, c3⟩ := hw; (focus (go_simp; (try with_reducible rfl); done))); try simp only [Act.put, List.setIfInBounds_toArray, List.set_cons_zero, List.set_cons_succ])
  (refine wpSegs_take (v := ?_) hS rfl (fun w' hw => ?_) ?_; rotate_left; (obtain ⟨c0, c1, c2, c3⟩ := hw; (focus (go_simp; (try with_reducible rfl); done))); try simp only [Act.put, List.setIfInBounds_toArray, List.set_cons_zero, List.set_cons_succ])
  (refine wpSegs_take (v := ?_) hS rfl (fun w' hw => ?_) ?_; rotate_left; (obtain ⟨c0, c1, c2, c3⟩ := hw; (focus (go_simp; (try with_reducible rfl); done))); try simp only [Act.put, List.setIfInBounds_toArray, List.set_cons_zero, List.set_cons_succ])
  (refine wpSegs_take (v := ?_) hS rfl (fun w' hw => ?_) ?_; rotate_left; (obtain ⟨c0, c1, c2, c3⟩ := hw; (focus (go_simp; (try with_reducible rfl); done))); try simp only [Act.put, List.setIfInBounds_toArray, List.set_cons_zero, List.set_cons_succ])
  (refine wpSegs_take (v := ?_) hS rfl (fun w' hw => ?_) ?_; rotate_left; (obtain ⟨c0, c1, c2, c3⟩ := hw; (focus (go_simp; (try with_reducible rfl); done))); try simp only [Act.put, List.setIfInBounds_toArray, List.set_cons_zero, List.set_cons_succ])
  (refine wpSegs_take (v := ?_) hS rfl (fun w' hw => ?_) ?_; rotate_left; (obtain ⟨c0, c1, c2, c3⟩ := hw; (focus (go_simp; (try with_reducible rfl); done))); try simp only [Act.put, List.setIfInBounds_toArray, List.set_cons_zero, List.set_cons_succ])
  (refine wpSegs_take (v := ?_) hS rfl (fun w' hw => ?_) ?_; rotate_left; (obtain ⟨c0, c1, c2, c3⟩ := hw; (focus (go_simp; (try with_reducible rfl); done))); try simp only [Act.put, List.setIfInBounds_toArray, List.set_cons_zero, List.set_cons_succ])
  (refine wpSegs_take (v := ?_) hS rfl (fun w' hw => ?_) ?_; rotate_left; (obtain ⟨c0, c1, c2, c3⟩ := hw; (focus (go_simp; (try with_reducible rfl); done))); try simp only [Act.put, List.setIfInBounds_toArray, List.set_cons_zero, List.set_cons_succ])
  (refine wpSegs_take (v := ?_) hS rfl (fun w' hw => ?_) ?_; rotate_left; (obtain ⟨c0, c1, c2, c3⟩ := hw; (focus (go_simp; (try with_reducible rfl); done))); try simp only [Act.put, List.setIfInBounds_toArray, List.set_cons_zero, List.set_cons_succ])
  (refine wpSegs_take (v := ?_) hS rfl (fun w' hw => ?_) ?_; rotate_left; (obtain ⟨c0, c1, c2, c3⟩ := hw; (focus (go_simp; (try with_reducible rfl); done))); try simp only [Act.put, List.setIfInBounds_toArray, List.set_cons_zero, List.set_cons_succ])
  (refine wpSegs_take (v := ?_) hS rfl (fun w' hw => ?_) ?_; rotate_left; (obtain ⟨c0, c1, c2, c3⟩ := hw; (focus (go_simp; (try with_reducible rfl); done))); try simp only [Act.put, List.setIfInBounds_toArray, List.set_cons_zero, List.set_cons_succ])
  (refine wpSegs_take (v := ?_) hS rfl (fun w' hw => ?_) ?_; rotate_left; (obtain ⟨c0, c1, c2, c3⟩ := hw; (focus (go_simp; (try with_reducible rfl); done))); try simp only [Act.put, List.setIfInBounds_toArray, List.set_cons_zero, List.set_cons_succ])
  (refine wpSegs_take (v := ?_) hS rfl (fun w' hw => ?_) ?_; rotate_left; (obtain ⟨c0, c1, c2, c3⟩ := hw; (focus (go_simp; (try with_reducible rfl); done))); try simp only [Act.put, List.setIfInBounds_toArray, List.set_cons_zero, List.set_cons_succ])
  (refine wpSegs_take (v := ?_) hS rfl (fun w' hw => ?_) ?_; rotate_left; (obtain ⟨c0, c1, c2, c3⟩ := hw; (focus (go_simp; (try with_reducible rfl); done))); try simp only [Act.put, List.setIfInBounds_toArray, List.set_cons_zero, List.set_cons_succ])
  refine wpSegs_run rfl (fun K hK => ?_)
  go_simp
  refine (lput_any none 0 0 B [] num 8 v0 (OwnV.nil v0) (fun g e => by cases e) hBd.out (by omega) (by omega)).mono ?_
  rintro e v1 ⟨A1, c1, rfl, o1, g1, t1⟩
  have hl1 : ([] ++ be 8 num).length = 8 := by simp [be_length]
  rw [hl1] at o1 ⊢
  have O1 := Lib.hid o1
  have G1 := Lib.hid g1
  have T1 := Lib.hid (T0.out.trans (W := fun i => B ≤ i) t1 (fun _ e => e) (fun _ e => .inl e))
  have hS := And.intro (cell_turned t1 hS.1 (fun e => absurd (show B ≤ g from e) (by have := hgB.out; omega))) (And.intro (cell_turned t1 hS.2.1 (fun e => absurd (show B ≤ g from e) (by have := hgB.out; omega))) (And.intro (cell_turned t1 hS.2.2.1 (fun e => absurd (show B ≤ g from e) (by have := hgB.out; omega))) (cell_turned t1 hS.2.2.2 (fun e => absurd (show B ≤ g from e) (by have := hgB.out; omega)))))
  clear o1 g1 t1 hl1
  refine hK.out _ _ hS ?_
  clear hK K
  try simp only [Act.put, List.setIfInBounds_toArray, List.set_cons_zero, List.set_cons_succ]
  refine wpSegs_run rfl (fun K hK => ?_)
  go_simp
  refine (lput_any A1 8 c1 B (be 8 num) turn 4 v1 O1.out G1.out (by have := HB.out; have := (T1.out).size; omega) (by omega) (by omega)).mono ?_
  rintro e v2 ⟨A2, c2, rfl, o2, g2, t2⟩
  have hl2 : (be 8 num ++ be 4 turn).length = 12 := by simp [be_length]
  rw [hl2] at o2 ⊢
  have O2 := Lib.hid o2
  have G2 := Lib.hid g2
  have T2 := Lib.hid (T1.out.trans (W := fun i => B ≤ i) t2 (fun _ e => e) (fun _ e => .inl e))
  have hS := And.intro (cell_turned t2 hS.1 (fun e => absurd (show B ≤ g from e) (by have := hgB.out; omega))) (And.intro (cell_turned t2 hS.2.1 (fun e => absurd (show B ≤ g from e) (by have := hgB.out; omega))) (And.intro (cell_turned t2 hS.2.2.1 (fun e => absurd (show B ≤ g from e) (by have := hgB.out; omega))) (cell_turned t2 hS.2.2.2 (fun e => absurd (show B ≤ g from e) (by have := hgB.out; omega)))))
  clear o2 g2 t2 hl2
  refine hK.out _ _ hS ?_
  clear hK K
  try simp only [Act.put, List.setIfInBounds_toArray, List.set_cons_zero, List.set_cons_succ]
  refine wpSegs_run rfl (fun K hK => ?_)
  go_simp
  refine (lput_any A2 12 c2 B (be 8 num ++ be 4 turn) bef 2 v2 O2.out G2.out (by have := HB.out; have := (T2.out).size; omega) (by omega) (by omega)).mono ?_
  rintro e v3 ⟨A3, c3, rfl, o3, g3, t3⟩
  have hl3 : (be 8 num ++ be 4 turn ++ be 2 bef).length = 14 := by simp [be_length]
  rw [hl3] at o3 ⊢
  have O3 := Lib.hid o3
  have G3 := Lib.hid g3
  have T3 := Lib.hid (T2.out.trans (W := fun i => B ≤ i) t3 (fun _ e => e) (fun _ e => .inl e))
  have hS := And.intro (cell_turned t3 hS.1 (fun e => absurd (show B ≤ g from e) (by have := hgB.out; omega))) (And.intro (cell_turned t3 hS.2.1 (fun e => absurd (show B ≤ g from e) (by have := hgB.out; omega))) (And.intro (cell_turned t3 hS.2.2.1 (fun e => absurd (show B ≤ g from e) (by have := hgB.out; omega))) (cell_turned t3 hS.2.2.2 (fun e => absurd (show B ≤ g from e) (by have := hgB.out; omega)))))
  clear o3 g3 t3 hl3
  refine hK.out _ _ hS ?_
  clear hK K
  try simp only [Act.put, List.setIfInBounds_toArray, List.set_cons_zero, List.set_cons_succ]
  refine wpSegs_run rfl (fun K hK => ?_)
  go_simp
  refine (lput_any A3 14 c3 B ((be 8 num ++ be 4 turn) ++ be 2 bef) ((n : Nat) : Int) 2 v3 O3.out G3.out (by have := HB.out; have := (T3.out).size; omega) (by omega) (by omega)).mono ?_
  rintro e v4 ⟨A4, c4, rfl, o4, g4, t4⟩
  have hl4 : ((be 8 num ++ be 4 turn) ++ be 2 bef ++ be 2 ((n : Nat) : Int)).length = 16 := by simp [be_length]
  rw [hl4] at o4 ⊢
  have O4 := Lib.hid o4
  have G4 := Lib.hid g4
  have T4 := Lib.hid (T3.out.trans (W := fun i => B ≤ i) t4 (fun _ e => e) (fun _ e => .inl e))
  have hS := And.intro (cell_turned t4 hS.1 (fun e => absurd (show B ≤ g from e) (by have := hgB.out; omega))) (And.intro (cell_turned t4 hS.2.1 (fun e => absurd (show B ≤ g from e) (by have := hgB.out; omega))) (And.intro (cell_turned t4 hS.2.2.1 (fun e => absurd (show B ≤ g from e) (by have := hgB.out; omega))) (cell_turned t4 hS.2.2.2 (fun e => absurd (show B ≤ g from e) (by have := hgB.out; omega)))))
  clear o4 g4 t4 hl4
  refine hK.out _ _ hS ?_
  clear hK K
  try simp only [Act.put, List.setIfInBounds_toArray, List.set_cons_zero, List.set_cons_succ]
  (refine wpSegs_take (v := ?_) hS rfl (fun w' hw => ?_) ?_; rotate_left; (obtain ⟨c0, c1, c2, c3⟩ := hw; (focus (go_simp; (try with_reducible rfl); done))); try simp only [Act.put, List.setIfInBounds_toArray, List.set_cons_zero, List.set_cons_succ])
  refine wpSegs_nil ?_
  have x4 := hS.2.2.2
  clear hS
  have R4 := Lib.hid (HR.out.turned T4.out (fun e => by have := hgb.out; have := HB.out; omega))
  have hw4 := Lib.hid (show w.heap.size ≤ v4.heap.size from T4.out.size)
  have hni : (n : Int) < 496 := by omega
  have hz : (512 : Int) - (16 + (n : Int)) = ((496 - n : Nat) : Int) := by omega
  have h0 : 0 < 496 - n := by omega
  go_wp2_with (first | (at_builtin; refine wpList_app2 bytT rfl (.tmp 28) (.tmp 32) rfl O4.out ⟨gb, 0, none⟩ n c body hbl.out (news_of_row R4.out) hn (by omega) rfl rfl ?_; intro A5 c5 v5 ho5 hor5; obtain ⟨T5, G5⟩ := app_from T4.out (by have := HB.out; omega) G4.out (Turned.refl (fun _ => False) v4) hor5; have hT5 := Lib.hid T5; have hG5 := Lib.hid G5; clear hor5 T5 G5; obtain ⟨g5, e5, r5⟩ := ho5.some_ (by omega); subst e5; have R5 := Lib.hid r5; clear ho5 r5) | (at_builtin; go_loud (refine wpList_bytes_zeros bytT Tryd.underlying3 rfl (.tmp 34) (.tmp 37) rfl (RowB.app R5.out) (496 - n) h0 (by omega) rfl (by first | rfl | (simp [Act.eval, hz]; done) | (show Value.int .i64 _ = _; congr 1; omega)) ?_; intro g6 c6 v6 r6 hgr6 hat6)))
  go_ret
  have e512 : 16 + n + (496 - n) = 512 := by omega
  rw [e512] at r6
  have hB5 := hG5.out g5 rfl
  refine ⟨g6, c6, by first | (rw [e512]; done) | (rw [e512]; rfl) | rfl, ?_, ?_, ?_⟩
  · unfold shtL
    rw [hbl.out]
    exact r6
  · rcases hat6 with e | e
    · have := HB.out; omega
    · have := hT5.out.size; omega
  · have hq := hT5.out.grown hgr6 (fun k e => by injection e with e; subst e; exact .inl hB5)
    exact (Turned.refl (fun _ => False) w).trans hq (fun _ e => e) (fun k e => .inr (by have := HB.out; omega))
end Go.Proofs.YtfheikmjjijdpaaDoor

