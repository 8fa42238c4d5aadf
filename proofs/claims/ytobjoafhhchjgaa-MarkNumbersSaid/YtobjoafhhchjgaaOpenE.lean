/-
  The steps of a disk with masters (storemanlaw25.Do), opened.
-/
import Derived.Test.YtobjoafhhchjgaaOpenD
import Derived.Test.YtobjoafhhchjgaaMrkB
namespace Go.Proofs.Ytobjoafhhchjgaa
open Go.RowKit Go.ChangeShapes Go.WideShapes Go.Deep

section
variable {H : Type} {enc : TypeId × Value → H} {P : Program} {w : World} {base : Nat} {spare : Nat → Bool} {held : Bool}
/-- A slice of structs: each field's cells, however many, and the field's own reading. -/
theorem open_structsN {t e : TypeId} {fs : Array Field} {f0 : Field} {fuel : Nat} {v : Value} {x : DataW H × List MemPlace} (ht : P.underlying t = some (.slice e)) (he : P.underlying e = some (.struct fs)) (hf0 : fs[0]? = some f0) (ho : f0.offset = 0) (h1 : P.cellsOf f0.type = 1) (hpe : 0 < P.cellsOf e)
    (hlt : ∀ p ∈ x.2, p.block < w.heap.size) (h : DataW.trod enc P w base spare held fuel t [v] = some x) :
    ∃ A n c, v = .slice A n c ∧ n ≤ c ∧ c ≤ maxLen ∧ (A = none → n = 0 ∧ c = 0) ∧ (0 < n → ∃ b off, A = some ⟨b, off, none⟩ ∧ b < w.heap.size ∧ ∀ i, i < n → ∀ (j : Nat) (f : Field), fs[j]? = some f → f.offset + P.cellsOf f.type ≤ P.cellsOf e →
      ∃ us y m, us.length = P.cellsOf f.type ∧ (∀ (k : Nat) u, us[k]? = some u → w.cell? ⟨b, off + (i * P.cellsOf e + (f.offset + k)), none⟩ = some u) ∧ DataW.trod enc P w base spare held m f.type us = some y ∧ (∀ p ∈ y.2, p.block < w.heap.size)) := by
  rcases open_slice ht h with ⟨hcs, hx⟩ | ⟨a, len, cap, m, k, D, Pl, hcs, hb, hl, hm, hmm, hx, hi⟩
  · exact ⟨none, 0, 0, by simpa using hcs, Nat.le_refl _, by simp [maxLen], fun _ => ⟨rfl, rfl⟩, fun h => absurd h (by omega)⟩
  · refine ⟨some a, len, cap, by simpa using hcs, hl, hm, (fun e => by cases e), fun hpos => ?_⟩
    have hle : len ≤ m := by rw [hmm]; split <;> omega
    have key : ∀ i, i < len → ∀ (j : Nat) (f : Field), fs[j]? = some f → f.offset + P.cellsOf f.type ≤ P.cellsOf e → ∃ us y m, us.length = P.cellsOf f.type ∧ (∀ (k : Nat) u, us[k]? = some u → w.cell? (a.add (i * P.cellsOf e + (f.offset + k))) = some u) ∧ DataW.trod enc P w base spare held m f.type us = some y ∧ (∀ p ∈ y.2, p.block < w.heap.size) := by
      intro i hil j f hj hof
      obtain ⟨cs', hc, ht'⟩ := hi i (by omega)
      obtain ⟨ys, n', _, hy, hlen, hyl, hf⟩ := DataW.trod_struct he ht'
      obtain ⟨_, hcl, hat⟩ := World.cells?_some hc
      have h2 := hf j f hj
      have hjl : j < fs.size := (Array.getElem?_eq_some_iff.1 hj).1
      have hys : ys[j]? = some (ys[j]'(by omega)) := List.getElem?_eq_getElem (by omega)
      refine ⟨(cs'.drop f.offset).take (P.cellsOf f.type), _, n', ?_, ?_, h2.trans hys, fun p hp => hlt p ?_⟩
      · rw [List.length_take, List.length_drop]; omega
      · intro k u hu
        have hk : k < P.cellsOf f.type := by
          have := (List.getElem?_eq_some_iff.1 hu).1
          rw [List.length_take] at this
          omega
        rw [List.getElem?_take, if_pos hk, List.getElem?_drop] at hu
        rw [← Go.Deep.add_add, hat _ (by omega), hu]
      · rw [hx]
        simp only [Prod.mk.injEq] at hy
        refine List.mem_append_right _ (List.mem_flatMap.2 ⟨i, List.mem_range.2 (by omega), ?_⟩)
        rw [hy.2]
        exact List.mem_flatMap.2 ⟨_, List.getElem_mem _, hp⟩
    have hf0s : 0 < fs.size := (Array.getElem?_eq_some_iff.1 hf0).1
    obtain ⟨us, y, _, hul, hu, _⟩ := key 0 hpos 0 f0 hf0 (by omega)
    obtain ⟨u, hu0⟩ : ∃ u, us[0]? = some u := ⟨_, List.getElem?_eq_getElem (by omega)⟩
    have hu1 := hu 0 u hu0
    rw [ho] at hu1
    have hu' : w.cell? a = some u := by simpa [Addr.add] using hu1
    obtain ⟨ab, ao, rfl⟩ : ∃ ab ao, a = ⟨ab, ao, none⟩ := ⟨_, _, plain_addr hu'⟩
    refine ⟨ab, ao, rfl, World.block_lt_of_cell? w ⟨ab, ao, none⟩ (u := u) hu', fun i hil j f hj hof => ?_⟩
    obtain ⟨us, y, m', k0, k1, k2, k3⟩ := key i hil j f hj hof
    exact ⟨us, y, m', k0, fun k u hu => by rw [← k1 k u hu, Addr.add_mid], k2, k3⟩
end

/-- A step with masters. -/
structure DoM where
  op : Int
  num : Int
  mas : M4
  byt : Int
  F : Option Addr
  fn : Nat
  fc : Nat
  fs : List Int
instance : Inhabited DoM := ⟨⟨0, 0, ⟨0, 0, 0, 0⟩, 0, none, 0, 0, []⟩⟩
structure DoMAt (w : World) (B b o : Nat) (x : DoM) : Prop where
  c0 : w.cell? ⟨b, o, none⟩ = some (.int .i64 x.op)
  c1 : w.cell? ⟨b, o + 1, none⟩ = some (.int .i64 x.num)
  c2 : w.cell? ⟨b, o + 2, none⟩ = some (.int .i64 x.mas.seq)
  c3 : w.cell? ⟨b, o + 3, none⟩ = some (.int .i64 x.mas.turn)
  c4 : w.cell? ⟨b, o + 4, none⟩ = some (.int .i64 x.mas.old)
  c5 : w.cell? ⟨b, o + 5, none⟩ = some (.int .i64 x.mas.mark)
  c6 : w.cell? ⟨b, o + 6, none⟩ = some (.slice x.F x.fn x.fc)
  c7 : w.cell? ⟨b, o + 7, none⟩ = some (.int .u8 x.byt)
  b0 : -9223372036854775808 ≤ x.op ∧ x.op ≤ 9223372036854775807
  b1 : -9223372036854775808 ≤ x.num ∧ x.num ≤ 9223372036854775807
  mok : x.mas.Ok
  b7 : 0 ≤ x.byt ∧ x.byt ≤ 255
  fates : FatesR w B x.F x.fn x.fs
  nil_ : x.F = none → x.fn = 0 ∧ x.fc = 0
structure DosM (w : World) (B : Nat) (A : Option Addr) (n : Nat) (X : Nat → DoM) : Prop where
  max : n ≤ 9223372036854775807
  at_ : 0 < n → ∃ b off, A = some ⟨b, off, none⟩ ∧ b < B ∧ ∀ i, i < n → DoMAt w B b (off + i * 8) (X i)
theorem DoMAt.below {w w' : World} {B b o : Nat} {x : DoM} (h : DoMAt w B b o x) (hb : Below B w w') (hlt : b < B) : DoMAt w' B b o x :=
  ⟨(hb.cell (p := ⟨b, o, none⟩) hlt).trans h.c0, (hb.cell (p := ⟨b, o + 1, none⟩) hlt).trans h.c1, (hb.cell (p := ⟨b, o + 2, none⟩) hlt).trans h.c2, (hb.cell (p := ⟨b, o + 3, none⟩) hlt).trans h.c3,
    (hb.cell (p := ⟨b, o + 4, none⟩) hlt).trans h.c4, (hb.cell (p := ⟨b, o + 5, none⟩) hlt).trans h.c5, (hb.cell (p := ⟨b, o + 6, none⟩) hlt).trans h.c6, (hb.cell (p := ⟨b, o + 7, none⟩) hlt).trans h.c7, h.b0, h.b1, h.mok, h.b7, h.fates.below hb, h.nil_⟩
theorem DosM.below {w w' : World} {B n : Nat} {A : Option Addr} {X : Nat → DoM} (h : DosM w B A n X) (hb : Below B w w') : DosM w' B A n X :=
  ⟨h.max, fun hn => by
    obtain ⟨b, off, e, hlt, hi⟩ := h.at_ hn
    exact ⟨b, off, e, hlt, fun i h => (hi i h).below hb hlt⟩⟩
theorem DosM.cut {w : World} {B n m : Nat} {A : Option Addr} {X : Nat → DoM} (h : DosM w B A n X) (hm : m ≤ n) : DosM w B A m X :=
  ⟨Nat.le_trans hm h.max, fun hn => by
    obtain ⟨b, off, e, hlt, hi⟩ := h.at_ (by omega)
    exact ⟨b, off, e, hlt, fun i h => hi i (by omega)⟩⟩

theorem one_of {us : List Value} (h : us.length = 1) : ∃ u, us = [u] := by
  match us, h with
  | [u], _ => exact ⟨u, rfl⟩
set_option maxRecDepth 100000 in
theorem open_dos25 {H : Type} {enc : TypeId × Value → H} {w : World} {base : Nat} {spare : Nat → Bool} {held : Bool} {fuel : Nat} {v : Value} {x : DataW H × List MemPlace} (hlt : ∀ p ∈ x.2, p.block < w.heap.size)
    (h : DataW.trod enc Try.prog w base spare held fuel 67 [v] = some x) : ∃ A n c X, v = .slice A n c ∧ n ≤ c ∧ c ≤ maxLen ∧ DosM w w.heap.size A n X := by
  have hC : Try.prog.cellsOf 69 = 8 := by kernel_rfl
  have hC3 : Try.prog.cellsOf 3 = 1 := by kernel_rfl
  have hC6 : Try.prog.cellsOf 2 = 1 := by kernel_rfl
  have hC5 : Try.prog.cellsOf 5 = 1 := by kernel_rfl
  have hCF : Try.prog.cellsOf 23 = 1 := by kernel_rfl
  have hCM : Try.prog.cellsOf 59 = 4 := by kernel_rfl
  obtain ⟨A, n, c, rfl, hnc, hm, _, hc⟩ := open_structsN Try.underlying67 Try.underlying69 rfl rfl hC3 (by rw [hC]; omega) hlt h
  rcases Nat.eq_zero_or_pos n with h0 | h0
  · subst h0
    exact ⟨A, 0, c, default, rfl, hnc, hm, by omega, fun h => absurd h (by omega)⟩
  · obtain ⟨b, off, rfl, hb, hf⟩ := hc h0
    have hall : ∀ i, i < n → ∃ x : DoM, DoMAt w w.heap.size b (off + i * 8) x := by
      intro i hi
      obtain ⟨us0, y0, m0, l0, k0, t0, _⟩ := hf i hi 0 _ rfl (show 0 + Try.prog.cellsOf 3 ≤ Try.prog.cellsOf 69 by rw [hC, hC3]; decide)
      obtain ⟨us1, y1, m1, l1, k1, t1, _⟩ := hf i hi 1 _ rfl (show 1 + Try.prog.cellsOf 3 ≤ Try.prog.cellsOf 69 by rw [hC, hC3]; decide)
      obtain ⟨us2, y2, m2, l2, k2, t2, _⟩ := hf i hi 2 _ rfl (show 2 + Try.prog.cellsOf 59 ≤ Try.prog.cellsOf 69 by rw [hC, hCM]; decide)
      obtain ⟨us3, y3, m3, l3, k3, t3, p3⟩ := hf i hi 3 _ rfl (show 6 + Try.prog.cellsOf 23 ≤ Try.prog.cellsOf 69 by rw [hC, hCF]; decide)
      obtain ⟨us4, y4, m4, l4, k4, t4, _⟩ := hf i hi 4 _ rfl (show 7 + Try.prog.cellsOf 5 ≤ Try.prog.cellsOf 69 by rw [hC, hC5]; decide)
      obtain ⟨u0, rfl⟩ := one_of (l0.trans hC3)
      obtain ⟨u1, rfl⟩ := one_of (l1.trans hC3)
      obtain ⟨u3, rfl⟩ := one_of (l3.trans hCF)
      obtain ⟨u4, rfl⟩ := one_of (l4.trans hC5)
      have l2' := l2.trans hCM
      match us2, l2' with
      | [v0, v1, v2, v3], _ =>
        obtain ⟨ys, n', _, hy, hlen, hyl, hg⟩ := DataW.trod_struct Try.underlying59 t2
        have g0 : DataW.trod enc Try.prog w base spare held n' 2 [v0] = ys[0]? := by
          have := hg 0 _ rfl
          change DataW.trod enc Try.prog w base spare held n' 2 (([v0, v1, v2, v3].drop 0).take (Try.prog.cellsOf 2)) = ys[0]? at this
          rw [hC6] at this
          exact this
        have g1 : DataW.trod enc Try.prog w base spare held n' 2 [v1] = ys[1]? := by
          have := hg 1 _ rfl
          change DataW.trod enc Try.prog w base spare held n' 2 (([v0, v1, v2, v3].drop 1).take (Try.prog.cellsOf 2)) = ys[1]? at this
          rw [hC6] at this
          exact this
        have g2 : DataW.trod enc Try.prog w base spare held n' 2 [v2] = ys[2]? := by
          have := hg 2 _ rfl
          change DataW.trod enc Try.prog w base spare held n' 2 (([v0, v1, v2, v3].drop 2).take (Try.prog.cellsOf 2)) = ys[2]? at this
          rw [hC6] at this
          exact this
        have g3 : DataW.trod enc Try.prog w base spare held n' 2 [v3] = ys[3]? := by
          have := hg 3 _ rfl
          change DataW.trod enc Try.prog w base spare held n' 2 (([v0, v1, v2, v3].drop 3).take (Try.prog.cellsOf 2)) = ys[3]? at this
          rw [hC6] at this
          exact this
        have hys4 : ys.length = 4 := hyl
        have hys : ∀ j, j < 4 → ∃ y, ys[j]? = some y := fun j hj => ⟨_, List.getElem?_eq_getElem (Nat.lt_of_lt_of_eq hj hys4.symm)⟩
        obtain ⟨s0, hs0⟩ := hys 0 (by omega)
        obtain ⟨s1, hs1⟩ := hys 1 (by omega)
        obtain ⟨s2, hs2⟩ := hys 2 (by omega)
        obtain ⟨s3, hs3⟩ := hys 3 (by omega)
        obtain ⟨z0, e0, _, w0⟩ := DataW.trod_int Try.underlying3 t0
        obtain ⟨z1, e1, _, w1⟩ := DataW.trod_int Try.underlying3 t1
        obtain ⟨a0, i0, _, j0⟩ := DataW.trod_int Try.underlying2 (g0.trans hs0)
        obtain ⟨a1, i1, _, j1⟩ := DataW.trod_int Try.underlying2 (g1.trans hs1)
        obtain ⟨a2, i2, _, j2⟩ := DataW.trod_int Try.underlying2 (g2.trans hs2)
        obtain ⟨a3, i3, _, j3⟩ := DataW.trod_int Try.underlying2 (g3.trans hs3)
        obtain ⟨z4, e4, _, w4⟩ := DataW.trod_int Try.underlying5 t4
        obtain ⟨F, fn, fc, fs, e3, hF, hnil⟩ := open_fates p3 t3
        simp only [List.cons.injEq, and_true] at e0 e1 e4 i0 i1 i2 i3
        subst e0 e1 e3 e4 i0 i1 i2 i3
        rw [hC] at k0 k1 k2 k3 k4
        refine ⟨⟨z0, z1, ⟨a0, a1, a2, a3⟩, z4, F, fn, fc, fs⟩, k0 0 _ rfl, k1 0 _ rfl, k2 0 _ rfl, k2 1 _ rfl, k2 2 _ rfl, k2 3 _ rfl, k3 0 _ rfl, k4 0 _ rfl, i64_bounds w0, i64_bounds w1, ⟨i64_bounds j0, i64_bounds j1, i64_bounds j2, i64_bounds j3⟩, u8_bounds w4, hF, hnil⟩
    obtain ⟨X, hX⟩ := choose_lt hall
    exact ⟨_, n, c, X, rfl, hnc, hm, by unfold maxLen at hm; omega, fun _ => ⟨b, off, rfl, hb, hX⟩⟩
end Go.Proofs.Ytobjoafhhchjgaa
