/-
  ytfheikmjjijdpaadoor: laws and walks on the road to LogKeeps, joined: Open OpB OpI KmV KmX. Conditions stand at each theorem.
-/
import Derived.Test.YtfheikmjjijdpaaDoorProg
import Derived.Test.YtfheikmjjijdpaaDoorQSec
import Derived.ProofKit
import Derived.Deep.Slices
import Derived.Deep.MidRow
import Derived.Test.YtfheikmjjijdpaaDoorQOwn
import Derived.OpenShut
import Derived.ChangeSlices
import Derived.SizedLaws
import Derived.Test.YtfheikmjjijdpaaDoorQRecP
import Derived.Test.YtfheikmjjijdpaaDoorQKmC
import Derived.Test.YtfheikmjjijdpaaDoorQLgR
import Derived.Deep.CutRange
import Derived.Deep.CutBlock
namespace Go.Proofs.YtfheikmjjijdpaaDoor
open Go.RowKit Go.ChangeShapes Go.WideShapes Go.Deep

section
variable {H : Type} {enc : TypeId × Value → H} {P : Program} {w : World} {base : Nat} {spare : Nat → Bool} {held : Bool}

theorem plain_addr {a : Addr} {v : Value} (h : w.cell? a = some v) : a = ⟨a.block, a.off, none⟩ := by
  unfold World.cell? at h
  split at h
  · split at h
    · cases h
    · rename_i hs
      cases a with
      | mk b o s => cases s <;> simp_all
  · cases h

/-- A slice of structs: each one-cell field's cell, and its own reading. -/
theorem open_structs {t e : TypeId} {fs : Array Field} {f0 : Field} {fuel : Nat} {v : Value} {x : DataW H × List MemPlace} (ht : P.underlying t = some (.slice e)) (he : P.underlying e = some (.struct fs)) (hf0 : fs[0]? = some f0) (ho : f0.offset = 0) (h1 : P.cellsOf f0.type = 1) (hpe : 0 < P.cellsOf e)
    (hlt : ∀ p ∈ x.2, p.block < w.heap.size) (h : DataW.trod enc P w base spare held fuel t [v] = some x) :
    ∃ A n c, v = .slice A n c ∧ n ≤ c ∧ c ≤ maxLen ∧ (A = none → n = 0 ∧ c = 0) ∧ (0 < n → ∃ b off, A = some ⟨b, off, none⟩ ∧ b < w.heap.size ∧ ∀ i, i < n → ∀ (j : Nat) (f : Field), fs[j]? = some f → P.cellsOf f.type = 1 → f.offset < P.cellsOf e →
      ∃ u y m, w.cell? ⟨b, off + (i * P.cellsOf e + f.offset), none⟩ = some u ∧ DataW.trod enc P w base spare held m f.type [u] = some y ∧ (∀ p ∈ y.2, p.block < w.heap.size)) := by
  rcases open_slice ht h with ⟨hcs, hx⟩ | ⟨a, len, cap, m, k, D, Pl, hcs, hb, hl, hm, hmm, hx, hi⟩
  · exact ⟨none, 0, 0, by simpa using hcs, Nat.le_refl _, by simp [maxLen], fun _ => ⟨rfl, rfl⟩, fun h => absurd h (by omega)⟩
  · refine ⟨some a, len, cap, by simpa using hcs, hl, hm, (fun e => by cases e), fun hpos => ?_⟩
    have hle : len ≤ m := by rw [hmm]; split <;> omega
    -- each field's cell at 'a.add'
    have key : ∀ i, i < len → ∀ (j : Nat) (f : Field), fs[j]? = some f → P.cellsOf f.type = 1 → f.offset < P.cellsOf e → ∃ u y m, w.cell? (a.add (i * P.cellsOf e + f.offset)) = some u ∧ DataW.trod enc P w base spare held m f.type [u] = some y ∧ (∀ p ∈ y.2, p.block < w.heap.size) := by
      intro i hil j f hj hc1 hof
      obtain ⟨cs', hc, ht'⟩ := hi i (by omega)
      obtain ⟨ys, n', _, hy, hlen, hyl, hf⟩ := DataW.trod_struct he ht'
      obtain ⟨_, hcl, hat⟩ := World.cells?_some hc
      have h2 := hf j f hj
      rw [hc1] at h2
      have hjl : j < fs.size := (Array.getElem?_eq_some_iff.1 hj).1
      have hone : (cs'.drop f.offset).take 1 = [cs'[f.offset]'(by omega)] := by
        rw [List.drop_eq_getElem_cons (by omega)]
        rfl
      rw [hone] at h2
      have hys : ys[j]? = some (ys[j]'(by omega)) := List.getElem?_eq_getElem (by omega)
      refine ⟨_, _, n', ?_, h2.trans hys, fun p hp => hlt p ?_⟩
      · rw [← Go.Deep.add_add, hat _ hof, List.getElem?_eq_getElem (by omega)]
      · rw [hx]
        simp only [Prod.mk.injEq] at hy
        refine List.mem_append_right _ (List.mem_flatMap.2 ⟨i, List.mem_range.2 (by omega), ?_⟩)
        rw [hy.2]
        exact List.mem_flatMap.2 ⟨_, List.getElem_mem _, hp⟩
    obtain ⟨u, y, _, hu, _⟩ := key 0 hpos 0 f0 hf0 h1 (by omega)
    rw [ho] at hu
    have hu' : w.cell? a = some u := by simpa [Addr.add] using hu
    obtain ⟨ab, ao, rfl⟩ : ∃ ab ao, a = ⟨ab, ao, none⟩ := ⟨_, _, plain_addr hu'⟩
    refine ⟨ab, ao, rfl, World.block_lt_of_cell? w ⟨ab, ao, none⟩ (u := u) hu', fun i hil j f hj hc1 hof => ?_⟩
    obtain ⟨u, y, m', k1, k2, k3⟩ := key i hil j f hj hc1 hof
    exact ⟨u, y, m', by rw [← k1, Addr.add_mid], k2, k3⟩
end

/-- Fates: n numbers at F, below block B. -/
structure FatesR (w : World) (B : Nat) (F : Option Addr) (n : Nat) (fs : List Int) : Prop where
  len : fs.length = n
  max : n ≤ 9223372036854775807
  wf : ∀ f ∈ fs, (Lit.int .i64 f).wf = true
  cell : 0 < n → ∃ b off, F = some ⟨b, off, none⟩ ∧ b < B ∧ ∀ j, j < n → w.cell? ⟨b, off + j, none⟩ = some (.int .i64 (fs.getD j 0))
theorem FatesR.none_ (w : World) (B : Nat) : FatesR w B none 0 [] := ⟨rfl, by omega, by simp, fun h => absurd h (by omega)⟩
theorem FatesR.below {w w' : World} {B n : Nat} {F : Option Addr} {fs : List Int} (h : FatesR w B F n fs) (hb : Below B w w') : FatesR w' B F n fs :=
  ⟨h.len, h.max, h.wf, fun hn => by
    obtain ⟨b, off, e, hlt, hc⟩ := h.cell hn
    exact ⟨b, off, e, hlt, fun j hj => (hb.cell (p := ⟨b, off + j, none⟩) hlt).trans (hc j hj)⟩⟩

theorem open_fates {H : Type} {enc : TypeId × Value → H} {w : World} {base : Nat} {spare : Nat → Bool} {held : Bool} {fuel : Nat} {v : Value} {x : DataW H × List MemPlace} (hlt : ∀ p ∈ x.2, p.block < w.heap.size)
    (h : DataW.trod enc Tryd.prog w base spare held fuel 55 [v] = some x) : ∃ F n c fs, v = .slice F n c ∧ FatesR w w.heap.size F n fs ∧ (F = none → n = 0 ∧ c = 0) := by
  have hC : Tryd.prog.cellsOf 109 = 1 := by kernel_rfl
  obtain ⟨F, n, c, rfl, hnc, hm, hnil, hc⟩ := open_structs Tryd.underlying55 Tryd.underlying109 rfl rfl (by kernel_rfl) (by rw [hC]; exact Nat.zero_lt_one) hlt h
  have hC3 : Tryd.prog.cellsOf 3 = 1 := by kernel_rfl
  rcases Nat.eq_zero_or_pos n with h0 | h0
  · subst h0
    exact ⟨F, 0, c, [], rfl, ⟨rfl, by omega, by simp, fun h => absurd h (by omega)⟩, hnil⟩
  · obtain ⟨b, off, rfl, hb, hf⟩ := hc h0
    have hall : ∀ i, i < n → ∃ z : Int, w.cell? ⟨b, off + i, none⟩ = some (.int .i64 z) ∧ (Lit.int .i64 z).wf = true := by
      intro i hi
      obtain ⟨u, y, m, k1, k2, _⟩ := hf i hi 0 _ rfl hC3 (by rw [hC]; exact Nat.zero_lt_one)
      obtain ⟨z, k3, _, hw⟩ := DataW.trod_int Tryd.underlying3 k2
      simp only [List.cons.injEq, and_true] at k3
      subst k3
      exact ⟨z, by rw [hC, Nat.mul_one] at k1; exact k1, hw⟩
    obtain ⟨z, hz⟩ := choose_lt hall
    refine ⟨some ⟨b, off, none⟩, n, c, (List.range n).map z, rfl, ⟨by simp, by unfold maxLen at hm; omega, ?_, fun _ => ⟨b, off, rfl, hb, fun j hj => ?_⟩⟩, hnil⟩
    · intro f hf
      obtain ⟨i, hi, rfl⟩ := List.mem_map.1 hf
      exact (hz i (List.mem_range.1 hi)).2
    · rw [(hz j hj).1]
      simp [List.getD_eq_getElem?_getD, hj]
end Go.Proofs.YtfheikmjjijdpaaDoor

namespace Go.Proofs.YtfheikmjjijdpaaDoor
open Go.RowKit Go.ChangeShapes Go.WideShapes Go.Deep

def BytsOk (w : World) (A : Option Addr) (n c : Nat) (zs : List Int) : Prop := BytS w A n c zs ∧ (∀ z ∈ zs, isByte z) ∧ n ≤ c ∧ c ≤ maxLen
theorem u8_wf {n : Int} (h : (Lit.int .u8 n).wf = true) : isByte n := by
  simp [Lit.wf, IntKind.min, IntKind.max, IntKind.bits, IntKind.signed] at h
  unfold isByte
  omega
theorem i64b {n : Int} (h : (Lit.int .i64 n).wf = true) : -9223372036854775808 ≤ n ∧ n ≤ 9223372036854775807 := by
  simp [Lit.wf, IntKind.min, IntKind.max, IntKind.bits, IntKind.signed] at h
  omega
theorem open_byts {H : Type} {enc : TypeId × Value → H} {w : World} {base : Nat} {spare : Nat → Bool} {held : Bool} {fuel : Nat} {v : Value} {x : DataW H × List MemPlace}
    (h : DataW.trod enc Tryd.prog w base spare held fuel 33 [v] = some x) : ∃ A n c zs, v = .slice A n c ∧ BytsOk w A n c zs ∧ (n = 0 ∨ ∃ e s, x.1 = .slice e s ∧ n ≤ e.length + s.length) := by
  rcases open_ints Tryd.underlying33 Tryd.underlying5 (by kernel_rfl) h with ⟨hcs, hx⟩ | ⟨a, len, cap, zs, hcs, hb, hl, hm, hz, hx, hcell, hwz⟩
  · exact ⟨none, 0, 0, [], by simpa using hcs, ⟨⟨BytR.none_ w, fun _ => ⟨rfl, rfl⟩⟩, by simp, Nat.le_refl _, Nat.zero_le _⟩, .inl rfl⟩
  · have hle : len ≤ zs.length := by rw [hz]; split <;> omega
    have hlt : (zs.take len).length = len := by rw [List.length_take]; omega
    refine ⟨some a, len, cap, zs.take len, by simpa using hcs, ⟨⟨⟨hlt, by unfold maxLen at hm; omega, fun h0 => ?_⟩, fun e => by cases e⟩, fun z hzm => u8_wf (hwz z (List.mem_of_mem_take hzm)), hl, hm⟩, .inr ⟨_, _, by rw [hx], ?_⟩⟩
    · have h1 := hcell 0 (by omega)
      have h2 : w.cell? a = some (.int .u8 (zs.getD 0 0)) := by simpa [Addr.add] using h1
      have h3 := plain_addr h2
      refine ⟨a.block, a.off, by rw [← h3], fun j hj => ?_⟩
      have h4 := hcell j (by omega)
      rw [h3, Addr.add_mid] at h4
      rw [h4]
      simp only [List.getD_eq_getElem?_getD, List.getElem?_take, if_pos hj]
    · simp [lits]
      omega
end Go.Proofs.YtfheikmjjijdpaaDoor

namespace Go.Proofs.YtfheikmjjijdpaaDoor
open Go.RowKit Go.ChangeShapes Go.WideShapes Go.Deep

/-- A list of numbers that is read. -/
structure LongR (w : World) (A : Option Addr) (n c : Nat) (zs : List Int) : Prop where
  len : zs.length = n
  le : n ≤ c
  max : c ≤ maxLen
  wf : ∀ z ∈ zs, I64 z
  cell : 0 < n → ∃ b off, A = some ⟨b, off, none⟩ ∧ ∀ j, j < n → w.cell? ⟨b, off + j, none⟩ = some (.int .i64 (zs.getD j 0))
theorem LongR.at_ {w wr : World} {A : Option Addr} {n c : Nat} {zs : List Int} {W : Nat → Prop} (h : LongR w A n c zs) (t : Turned W w wr) (hW : ∀ i, W i → w.heap.size ≤ i) {j : Nat} (hj : j < n) : ∃ b off, A = some ⟨b, off, none⟩ ∧ wr.cell? ⟨b, off + j, none⟩ = some (.int .i64 (zs.getD j 0)) ∧ I64 (zs.getD j 0) := by
  obtain ⟨b, off, rfl, hc⟩ := h.cell (by omega)
  refine ⟨b, off, rfl, cell_turned t (hc j hj) (fun e => by have h1 := hW _ e; have h2 := World.block_lt_of_cell? w _ (hc j hj); have h3 : w.heap.size ≤ b := h1; have h4 : b < w.heap.size := h2; omega), ?_⟩
  have hl := h.len
  rw [List.getD_eq_getElem?_getD, List.getElem?_eq_getElem (by omega)]
  exact h.wf _ (List.getElem_mem _)
theorem i64_wf {n : Int} (h : (Lit.int .i64 n).wf = true) : I64 n := i64b h
theorem open_longs {H : Type} {enc : TypeId × Value → H} {w : World} {base : Nat} {spare : Nat → Bool} {held : Bool} {fuel : Nat} {v : Value} {x : DataW H × List MemPlace}
    (h : DataW.trod enc Tryd.prog w base spare held fuel 22 [v] = some x) : ∃ A n c zs, v = .slice A n c ∧ LongR w A n c zs := by
  rcases open_ints Tryd.underlying22 Tryd.underlying3 (by kernel_rfl) h with ⟨hcs, hx⟩ | ⟨a, len, cap, zs, hcs, hb, hl, hm, hz, hx, hcell, hwz⟩
  · exact ⟨none, 0, 0, [], by simpa using hcs, ⟨rfl, Nat.le_refl _, Nat.zero_le _, by simp, fun h => absurd h (by omega)⟩⟩
  · have hle : len ≤ zs.length := by rw [hz]; split <;> omega
    have hlt : (zs.take len).length = len := by rw [List.length_take]; omega
    refine ⟨some a, len, cap, zs.take len, by simpa using hcs, ⟨hlt, hl, hm, fun z hzm => i64_wf (hwz z (List.mem_of_mem_take hzm)), fun h0 => ?_⟩⟩
    have h1 := hcell 0 (by omega)
    have h2 : w.cell? a = some (.int .i64 (zs.getD 0 0)) := by simpa [Addr.add] using h1
    have h3 := plain_addr h2
    refine ⟨a.block, a.off, by rw [← h3], fun j hj => ?_⟩
    have h4 := hcell j (by omega)
    rw [h3, Addr.add_mid] at h4
    rw [h4]
    simp only [List.getD_eq_getElem?_getD, List.getElem?_take, if_pos hj]
end Go.Proofs.YtfheikmjjijdpaaDoor

namespace Go.Proofs.YtfheikmjjijdpaaDoor
open Go.RowKit Go.Maps Go.Proofs
set_option linter.unusedVariables false
set_option linter.unusedSimpArgs false

/-- A list of records that is read. -/
structure RecsR (w : World) (A : Option Addr) (n c : Nat) (rs : List (Rec × RecS)) : Prop where
  len : rs.length = n
  le : n ≤ c
  max : c ≤ maxLen
  cel : CelR w A (n * 11) (rcells rs)
  recs : ∀ r ∈ rs, RecIs w r.1 r.2 ∧ r.1.Ok
/-- A list of lists of fates that is read. -/
structure FatL (w : World) (A : Option Addr) (n c : Nat) : Prop where
  le : n ≤ c
  max : c ≤ maxLen
  cell : 0 < n → ∃ b off, A = some ⟨b, off, none⟩ ∧ ∀ j, j < n → ∃ G m cc fs, w.cell? ⟨b, off + j, none⟩ = some (.slice G m cc) ∧ FatesR w w.heap.size G m fs ∧ m ≤ cc ∧ cc ≤ maxLen
/-- A record that lies in cells. -/
def RecPl (w : World) (b o : Nat) (R : Rec) (S : RecS) : Prop := ∀ k, k < 11 → w.cell? ⟨b, o + k, none⟩ = (recC R S)[k]?
theorem RecPl.fresh {w wr : World} {b o : Nat} {R : Rec} {S : RecS} (h : RecPl w b o R S) (t : Turned (fun _ => False) w wr) : RecPl wr b o R S := fun k hk => by
  have h1 := h k hk
  obtain ⟨v, hv⟩ : ∃ v, (recC R S)[k]? = some v := ⟨_, Array.getElem?_eq_getElem (by show k < 11; exact hk)⟩
  rw [hv] at h1 ⊢
  exact cell_turned t h1 (fun e => e)
theorem RecPl.cells {w : World} {b o : Nat} {R : Rec} {S : RecS} (h : RecPl w b o R S) : w.cell? ⟨b, o, none⟩ = some (.int .i64 R.lsn) ∧ w.cell? ⟨b, o + 1, none⟩ = some (.int .i64 R.work) ∧ w.cell? ⟨b, o + 2, none⟩ = some (.int .i64 R.prev) ∧ w.cell? ⟨b, o + 3, none⟩ = some (.int .i64 R.next) ∧ w.cell? ⟨b, o + 4, none⟩ = some (.int .u8 R.kind) ∧ w.cell? ⟨b, o + 5, none⟩ = some (.int .i64 R.page) ∧
    w.cell? ⟨b, o + 6, none⟩ = some (.slice S.K.A S.K.n S.K.c) ∧ w.cell? ⟨b, o + 7, none⟩ = some (.slice S.O.A S.O.n S.O.c) ∧ w.cell? ⟨b, o + 8, none⟩ = some (.slice S.N.A S.N.n S.N.c) ∧ w.cell? ⟨b, o + 9, none⟩ = some (.slice S.D.A S.D.n S.D.c) ∧ w.cell? ⟨b, o + 10, none⟩ = some (.slice S.P.A S.P.n S.P.c) :=
  ⟨h 0 (by omega), h 1 (by omega), h 2 (by omega), h 3 (by omega), h 4 (by omega), h 5 (by omega), h 6 (by omega), h 7 (by omega), h 8 (by omega), h 9 (by omega), h 10 (by omega)⟩
theorem CelR.recPl {w : World} {b o n j : Nat} {rs : List (Rec × RecS)} {r : Rec × RecS} (h : CelR w (some ⟨b, o, none⟩) (n * 11) (rcells rs)) (hr : rs[j]? = some r) (hj : j < n) : RecPl w b (o + j * 11) r.1 r.2 := fun k hk => by
  obtain ⟨b2, o2, e, hc⟩ := h.cell (by omega)
  injection e with e; injection e with e1 e2; subst e1 e2
  have h1 := hc (j * 11 + k) (by omega)
  rw [rcells_at hr k hk, Array.getElem?_toList, ← Nat.add_assoc] at h1
  exact h1
theorem RecsR.at_ {w wr : World} {A : Option Addr} {n c : Nat} {rs : List (Rec × RecS)} (h : RecsR w A n c rs) (t : Turned (fun _ => False) w wr) {j : Nat} (hj : j < n) :
    ∃ b off R S, A = some ⟨b, off, none⟩ ∧ RecPl wr b (off + j * 11) R S ∧ RecIs wr R S ∧ R.Ok ∧ ∀ i, S.at i → i < w.heap.size := by
  have hl := h.len
  obtain ⟨r, hr⟩ : ∃ r, rs[j]? = some r := ⟨_, List.getElem?_eq_getElem (by omega)⟩
  have hm := List.mem_of_getElem? hr
  obtain ⟨b, off, e, _⟩ := h.cel.cell (by omega)
  subst e
  exact ⟨b, off, r.1, r.2, rfl, (CelR.recPl h.cel hr hj).fresh t, (h.recs r hm).1.turned t (fun i _ e => e), (h.recs r hm).2, fun i hi => (h.recs r hm).1.lt hi⟩
theorem FatL.at_ {w wr : World} {A : Option Addr} {n c : Nat} (h : FatL w A n c) (t : Turned (fun _ => False) w wr) {j : Nat} (hj : j < n) :
    ∃ b off G m cc fs, A = some ⟨b, off, none⟩ ∧ wr.cell? ⟨b, off + j, none⟩ = some (.slice G m cc) ∧ FatesR w w.heap.size G m fs ∧ m ≤ cc ∧ cc ≤ maxLen := by
  obtain ⟨b, off, rfl, hc⟩ := h.cell (by omega)
  obtain ⟨G, m, cc, fs, h1, h2, h3, h4⟩ := hc j hj
  exact ⟨b, off, G, m, cc, fs, rfl, cell_turned t h1 (fun e => e), h2, h3, h4⟩
theorem FatesR.ints {w wr : World} {G : Option Addr} {m d : Nat} {fs : List Int} (h : FatesR w w.heap.size G m fs) (t : Turned (fun _ => False) w wr) (hd : w.heap.size ≤ d) : IntsR wr d G m fs :=
  ⟨h.len, h.max, h.wf, fun hn => by
    obtain ⟨b, off, e, hlt, hc⟩ := h.cell hn
    exact ⟨b, off, e, by omega, fun j hj => cell_turned t (hc j hj) (fun e => e)⟩⟩
theorem IntsR.none_ (w : World) (d : Nat) : IntsR w d none 0 [] := ⟨rfl, by omega, by simp, fun h => absurd h (by omega)⟩
/-- Between two steps. -/
def KSt (w0 : World) (d ms mo step : Nat) (v8 v9 v11 v12 : Value) (w : World) : Prop := ∃ (T : Int) (X : LgM) (A : Option Addr) (c : Nat) (rows : List (Rec × RecS)) (safe : Nat) (D : DA) (E : Int → Option Sc),
  v8 = .int .i64 T ∧ v9 = .pointer (some ⟨X.L, 0, none⟩) ∧ v11 = .slice A rows.length c ∧ v12 = .int .i64 safe ∧ KM w0 w d ms mo D X A c rows ∧ DkIs D E ∧ D.down = false ∧ D.armed = 0 ∧ KRel T E X (rows.map Prod.fst) safe step ∧ rows.length ≤ step ∧ T ≤ (step : Int) + 1
/-- A record that came in, or was made, may be kept account of. -/
theorem KM.krec {w0 w w' : World} {d ms mo c : Nat} {D : DA} {X : LgM} {A : Option Addr} {rows : List (Rec × RecS)} (h : KM w0 w d ms mo D X A c rows) (t : Turned (fun _ => False) w w') {r : Rec × RecS} (hi : RecIs w' r.1 r.2) (hr : rightR r.1 = true) (ho : r.1.Ok) (hat : ∀ i, r.2.at i → i < w0.heap.size ∨ w.heap.size ≤ i) : KRec w' X d ms mo A r := by
  refine ⟨hi, hr, ho, fun i e => hi.lt e, fun i e e2 => ?_, fun i e e2 => ?_, fun i e o e2 => ?_⟩
  · rcases hat i e with h1 | h1
    · have := h.oL i e2; omega
    · have := h.log.lt e2; omega
  · rcases hat i e with h1 | h1
    · have := h.oD i e2; omega
    · have := h.disk.lt e2; omega
  · rcases hat i e with h1 | h1
    · have := h.oA i o e2; omega
    · have := h.all.lt e2; omega
theorem arm_ok20 (d s o : Nat) (A : DA) (n : Int) (w : World) (h : IsDisk w d s o A) (hdn : A.down = false) (hn : 0 ≤ n ∧ n ≤ 9223372036854775807) :
    Calls Tryd.prog 20 #[.pointer (some ⟨d, 0, none⟩), .int .i64 n] w (fun e w' => e = .returned (.tuple #[]) ∧ IsDisk w' d s o { A with armed := n } ∧ Turned (dskW d s o) w w') := by
  have hb := h.blk
  rw [hdn] at hb
  refine (arm_up d s o A.n A.armed n w hb).mono ?_
  rintro e w' ⟨rfl, h1, h2⟩
  rw [nonneg, if_pos hn.1] at h1
  obtain ⟨vs, vo, m1, m2, r⟩ := h.maps
  refine ⟨rfl, ⟨by rw [hdn]; exact h1, h.ne, h.n1, h.n2, hn.1, hn.2, vs, vo, m1.turned h2 (fun e => m1.ne_blk hb e.symm), m2.turned h2 (fun e => m2.ne_blk hb e.symm), r⟩, h2.mono (fun i hi => .inl (.inl hi))⟩
/-- From, at the oldest place: as many rows as are kept. -/
def KFr (n : Nat) (w : World) (e : Ending) (w' : World) : Prop := ∃ A c, e = .returned (.slice A n c) ∧ Turned (fun _ => False) w w'
theorem km_from_len {T : Int} {E : Int → Option Sc} {X : LgM} {recs : List Rec} {safe step : Nat} {w : World} (h : LogM w X) (hk : KRel T E X recs safe step) (hr : recs.length ≤ 1000) : Calls Tryd.prog 16 #[.pointer (some ⟨X.L, 0, none⟩), .int .i64 X.oldest] w (KFr recs.length w) := by
  have hl := hk.lsLen
  by_cases hn : recs = []
  · refine (hfr_none X X.oldest w h (List.length_eq_zero_iff.1 (by rw [hl, hn]; rfl))).mono ?_
    rintro e w' ⟨rfl, t⟩
    exact ⟨none, 0, by rw [hn]; rfl, t⟩
  · have hf := hk.from_ hn
    refine (hfr_any X X.oldest recs w h hf.srt hf.old hf.len (by omega) hf.all).mono ?_
    rintro e w' ⟨A, c, rows, rfl, _, hR⟩
    exact ⟨A, c, by rw [hl], hR.turned⟩
/-- The state ahead of the first step. -/
theorem kst_first {w0 w2 w3 : World} {d ms mo : Nat} {X : LgM} (hd : IsDisk w2 d ms mo (DA.new 7)) (hD : ∀ i, dskW d ms mo i → w0.heap.size ≤ i) (t2 : Turned (fun _ => False) w0 w2) (t3 : Turned (fun _ => False) w2 w3) (hl : LogM w3 X) (hX : X.d = d) (hown : ∀ i, X.own i → w2.heap.size ≤ i) (he : KEmp 1 (fun _ => none) X) :
    KSt w0 d ms mo 0 (.int .i64 1) (.pointer (some ⟨X.L, 0, none⟩)) (.slice none 0 0) (.int .i64 0) w3 := by
  refine ⟨1, X, none, 0, [], 0, DA.new 7, fun _ => none, rfl, rfl, rfl, rfl, ?_, DkIs.new, rfl, rfl, .inr ⟨he, rfl, rfl⟩, Nat.le_refl _, by omega⟩
  refine ⟨hl, hX, hd.fresh t3, OwnO.nil _ _ _, by simp, fun i hi => Nat.le_trans t2.size (hown i hi), hD, (fun g o e => by cases e), fun i hi e => ?_, (fun g o e => by cases e), (fun g o e => by cases e), t2.trans t3 (fun _ e => e) (fun _ e => e.elim)⟩
  have h1 := hown i e
  have h2 := hd.lt hi
  omega
end Go.Proofs.YtfheikmjjijdpaaDoor

namespace Go.Proofs.YtfheikmjjijdpaaDoor
open Go.RowKit Go.Maps Go.Proofs
set_option linter.unusedVariables false
set_option linter.unusedSimpArgs false

/-- Block n of a code. -/
def codeBlk (n : Nat) : Code → Option Code
  | .block m c => if m = n then some (.block m c) else codeBlk n c
  | .loop c => codeBlk n c
  | .seq a b => match codeBlk n a with
    | some c => some c
    | none => codeBlk n b
  | .scope c => codeBlk n c
  | .cond _ a b => match codeBlk n a with
    | some c => some c
    | none => codeBlk n b
  | _ => none
/-- Does a code end in block n? -/
def codeEnds (n : Nat) : Code → Bool
  | .block m _ => m == n
  | .seq _ b => codeEnds n b
  | _ => false
/-- What stands behind block n in its row. -/
def codeAft (n : Nat) : Code → Option Code
  | .block _ c => codeAft n c
  | .loop c => codeAft n c
  | .seq a b => if codeEnds n a then some b else match codeAft n a with
    | some c => some c
    | none => codeAft n b
  | .scope c => codeAft n c
  | .cond _ a b => match codeAft n a with
    | some c => some c
    | none => codeAft n b
  | _ => none
/-- A step of LogKeeps; what it does; the check codeAft it. -/
noncomputable def kStep : Code := ((Tryd.f4.body.bind (codeBlk 1)).getD .skip)
noncomputable def kDo : Code := ((Tryd.f4.body.bind (codeBlk 2)).getD .skip)
noncomputable def kChk : Code := ((Tryd.f4.body.bind (codeAft 2)).getD .skip)
end Go.Proofs.YtfheikmjjijdpaaDoor

