/-
  Arguments opened: a slice of structs, field by field; the steps of a disk's life; fates.
-/
import Derived.Test.YtfheikmjjijdpaaDoorProg
import Derived.Test.YtfheikmjjijdpaaDoorMem
import Derived.ProofKit
import Derived.Deep.Slices
import Derived.Deep.MidRow
namespace Go.Proofs.YtfheikmjjijdpaaDoor
open Go.RowKit Go.ChangeShapes Go.WideShapes Go.Deep

section
variable {H : Type} {enc : TypeId × Value → H} {P : Program} {w : World} {base : Nat} {spare : Nat → Bool} {held : Bool}

theorem plain_addr {a : Addr} {v : Value} (h : w.cell? a = some v) : a = ⟨a.block, a.off, none⟩ := by
  unfold World.cell? at h
  split at h
  · split at h
    · cases h
    · rename_i hs
      cases a with
      | mk b o s => cases s <;> simp_all
  · cases h

/-- A slice of structs: each one-cell field's cell, and its own reading. -/
theorem open_structs {t e : TypeId} {fs : Array Field} {f0 : Field} {fuel : Nat} {v : Value} {x : DataW H × List MemPlace} (ht : P.underlying t = some (.slice e)) (he : P.underlying e = some (.struct fs)) (hf0 : fs[0]? = some f0) (ho : f0.offset = 0) (h1 : P.cellsOf f0.type = 1) (hpe : 0 < P.cellsOf e)
    (hlt : ∀ p ∈ x.2, p.block < w.heap.size) (h : DataW.trod enc P w base spare held fuel t [v] = some x) :
    ∃ A n c, v = .slice A n c ∧ n ≤ c ∧ c ≤ maxLen ∧ (A = none → n = 0 ∧ c = 0) ∧ (0 < n → ∃ b off, A = some ⟨b, off, none⟩ ∧ b < w.heap.size ∧ ∀ i, i < n → ∀ (j : Nat) (f : Field), fs[j]? = some f → P.cellsOf f.type = 1 → f.offset < P.cellsOf e →
      ∃ u y m, w.cell? ⟨b, off + (i * P.cellsOf e + f.offset), none⟩ = some u ∧ DataW.trod enc P w base spare held m f.type [u] = some y ∧ (∀ p ∈ y.2, p.block < w.heap.size)) := by
  rcases open_slice ht h with ⟨hcs, hx⟩ | ⟨a, len, cap, m, k, D, Pl, hcs, hb, hl, hm, hmm, hx, hi⟩
  · exact ⟨none, 0, 0, by simpa using hcs, Nat.le_refl _, by simp [maxLen], fun _ => ⟨rfl, rfl⟩, fun h => absurd h (by omega)⟩
  · refine ⟨some a, len, cap, by simpa using hcs, hl, hm, (fun e => by cases e), fun hpos => ?_⟩
    have hle : len ≤ m := by rw [hmm]; split <;> omega
    -- each field's cell at 'a.add'
    have key : ∀ i, i < len → ∀ (j : Nat) (f : Field), fs[j]? = some f → P.cellsOf f.type = 1 → f.offset < P.cellsOf e → ∃ u y m, w.cell? (a.add (i * P.cellsOf e + f.offset)) = some u ∧ DataW.trod enc P w base spare held m f.type [u] = some y ∧ (∀ p ∈ y.2, p.block < w.heap.size) := by
      intro i hil j f hj hc1 hof
      obtain ⟨cs', hc, ht'⟩ := hi i (by omega)
      obtain ⟨ys, n', _, hy, hlen, hyl, hf⟩ := DataW.trod_struct he ht'
      obtain ⟨_, hcl, hat⟩ := World.cells?_some hc
      have h2 := hf j f hj
      rw [hc1] at h2
      have hjl : j < fs.size := (Array.getElem?_eq_some_iff.1 hj).1
      have hone : (cs'.drop f.offset).take 1 = [cs'[f.offset]'(by omega)] := by
        rw [List.drop_eq_getElem_cons (by omega)]
        rfl
      rw [hone] at h2
      have hys : ys[j]? = some (ys[j]'(by omega)) := List.getElem?_eq_getElem (by omega)
      refine ⟨_, _, n', ?_, h2.trans hys, fun p hp => hlt p ?_⟩
      · rw [← Go.Deep.add_add, hat _ hof, List.getElem?_eq_getElem (by omega)]
      · rw [hx]
        simp only [Prod.mk.injEq] at hy
        refine List.mem_append_right _ (List.mem_flatMap.2 ⟨i, List.mem_range.2 (by omega), ?_⟩)
        rw [hy.2]
        exact List.mem_flatMap.2 ⟨_, List.getElem_mem _, hp⟩
    obtain ⟨u, y, _, hu, _⟩ := key 0 hpos 0 f0 hf0 h1 (by omega)
    rw [ho] at hu
    have hu' : w.cell? a = some u := by simpa [Addr.add] using hu
    obtain ⟨ab, ao, rfl⟩ : ∃ ab ao, a = ⟨ab, ao, none⟩ := ⟨_, _, plain_addr hu'⟩
    refine ⟨ab, ao, rfl, World.block_lt_of_cell? w ⟨ab, ao, none⟩ (u := u) hu', fun i hil j f hj hc1 hof => ?_⟩
    obtain ⟨u, y, m', k1, k2, k3⟩ := key i hil j f hj hc1 hof
    exact ⟨u, y, m', by rw [← k1, Addr.add_mid], k2, k3⟩
end

/-- Fates: n numbers at F, below block B. -/
structure FatesR (w : World) (B : Nat) (F : Option Addr) (n : Nat) (fs : List Int) : Prop where
  len : fs.length = n
  max : n ≤ 9223372036854775807
  wf : ∀ f ∈ fs, (Lit.int .i64 f).wf = true
  cell : 0 < n → ∃ b off, F = some ⟨b, off, none⟩ ∧ b < B ∧ ∀ j, j < n → w.cell? ⟨b, off + j, none⟩ = some (.int .i64 (fs.getD j 0))
theorem FatesR.none_ (w : World) (B : Nat) : FatesR w B none 0 [] := ⟨rfl, by omega, by simp, fun h => absurd h (by omega)⟩
theorem FatesR.below {w w' : World} {B n : Nat} {F : Option Addr} {fs : List Int} (h : FatesR w B F n fs) (hb : Below B w w') : FatesR w' B F n fs :=
  ⟨h.len, h.max, h.wf, fun hn => by
    obtain ⟨b, off, e, hlt, hc⟩ := h.cell hn
    exact ⟨b, off, e, hlt, fun j hj => (hb.cell (p := ⟨b, off + j, none⟩) hlt).trans (hc j hj)⟩⟩

theorem open_fates {H : Type} {enc : TypeId × Value → H} {w : World} {base : Nat} {spare : Nat → Bool} {held : Bool} {fuel : Nat} {v : Value} {x : DataW H × List MemPlace} (hlt : ∀ p ∈ x.2, p.block < w.heap.size)
    (h : DataW.trod enc Tryd.prog w base spare held fuel 55 [v] = some x) : ∃ F n c fs, v = .slice F n c ∧ FatesR w w.heap.size F n fs ∧ (F = none → n = 0 ∧ c = 0) := by
  have hC : Tryd.prog.cellsOf 109 = 1 := by kernel_rfl
  obtain ⟨F, n, c, rfl, hnc, hm, hnil, hc⟩ := open_structs Tryd.underlying55 Tryd.underlying109 rfl rfl (by kernel_rfl) (by rw [hC]; exact Nat.zero_lt_one) hlt h
  have hC3 : Tryd.prog.cellsOf 3 = 1 := by kernel_rfl
  rcases Nat.eq_zero_or_pos n with h0 | h0
  · subst h0
    exact ⟨F, 0, c, [], rfl, ⟨rfl, by omega, by simp, fun h => absurd h (by omega)⟩, hnil⟩
  · obtain ⟨b, off, rfl, hb, hf⟩ := hc h0
    have hall : ∀ i, i < n → ∃ z : Int, w.cell? ⟨b, off + i, none⟩ = some (.int .i64 z) ∧ (Lit.int .i64 z).wf = true := by
      intro i hi
      obtain ⟨u, y, m, k1, k2, _⟩ := hf i hi 0 _ rfl hC3 (by rw [hC]; exact Nat.zero_lt_one)
      obtain ⟨z, k3, _, hw⟩ := DataW.trod_int Tryd.underlying3 k2
      simp only [List.cons.injEq, and_true] at k3
      subst k3
      exact ⟨z, by rw [hC, Nat.mul_one] at k1; exact k1, hw⟩
    obtain ⟨z, hz⟩ := choose_lt hall
    refine ⟨some ⟨b, off, none⟩, n, c, (List.range n).map z, rfl, ⟨by simp, by unfold maxLen at hm; omega, ?_, fun _ => ⟨b, off, rfl, hb, fun j hj => ?_⟩⟩, hnil⟩
    · intro f hf
      obtain ⟨i, hi, rfl⟩ := List.mem_map.1 hf
      exact (hz i (List.mem_range.1 hi)).2
    · rw [(hz j hj).1]
      simp [List.getD_eq_getElem?_getD, hj]
end Go.Proofs.YtfheikmjjijdpaaDoor
