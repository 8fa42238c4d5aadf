/-
  The steps of a disk's life (storemanlaw18.Do), opened.
-/
import Derived.Test.YtmblonmpiomjgaaGreatOpen
namespace Go.Proofs.YtmblonmpiomjgaaGreat
open Go.RowKit Go.ChangeShapes Go.WideShapes Go.Deep

/-- A step: what is done, to which sector, with which byte, which fates. -/
structure DoV where
  op : Int
  sec : Int
  num : Int
  byt : Int
  F : Option Addr
  fn : Nat
  fc : Nat
  fs : List Int
instance : Inhabited DoV := ⟨⟨0, 0, 0, 0, none, 0, 0, []⟩⟩
structure DoAt (w : World) (B b o : Nat) (x : DoV) : Prop where
  c0 : w.cell? ⟨b, o, none⟩ = some (.int .i64 x.op)
  c1 : w.cell? ⟨b, o + 1, none⟩ = some (.int .i64 x.sec)
  c2 : w.cell? ⟨b, o + 2, none⟩ = some (.int .i64 x.num)
  c3 : w.cell? ⟨b, o + 3, none⟩ = some (.int .u8 x.byt)
  c4 : w.cell? ⟨b, o + 4, none⟩ = some (.slice x.F x.fn x.fc)
  b0 : -9223372036854775808 ≤ x.op ∧ x.op ≤ 9223372036854775807
  b1 : -9223372036854775808 ≤ x.sec ∧ x.sec ≤ 9223372036854775807
  b2 : -9223372036854775808 ≤ x.num ∧ x.num ≤ 9223372036854775807
  b3 : 0 ≤ x.byt ∧ x.byt ≤ 255
  fates : FatesR w B x.F x.fn x.fs
  nil_ : x.F = none → x.fn = 0 ∧ x.fc = 0
structure DosR (w : World) (B : Nat) (A : Option Addr) (n : Nat) (X : Nat → DoV) : Prop where
  max : n ≤ 9223372036854775807
  at_ : 0 < n → ∃ b off, A = some ⟨b, off, none⟩ ∧ b < B ∧ ∀ i, i < n → DoAt w B b (off + i * 5) (X i)
theorem DoAt.below {w w' : World} {B b o : Nat} {x : DoV} (h : DoAt w B b o x) (hb : Below B w w') (hlt : b < B) : DoAt w' B b o x :=
  ⟨(hb.cell (p := ⟨b, o, none⟩) hlt).trans h.c0, (hb.cell (p := ⟨b, o + 1, none⟩) hlt).trans h.c1, (hb.cell (p := ⟨b, o + 2, none⟩) hlt).trans h.c2, (hb.cell (p := ⟨b, o + 3, none⟩) hlt).trans h.c3,
    (hb.cell (p := ⟨b, o + 4, none⟩) hlt).trans h.c4, h.b0, h.b1, h.b2, h.b3, h.fates.below hb, h.nil_⟩
theorem DosR.below {w w' : World} {B n : Nat} {A : Option Addr} {X : Nat → DoV} (h : DosR w B A n X) (hb : Below B w w') : DosR w' B A n X :=
  ⟨h.max, fun hn => by
    obtain ⟨b, off, e, hlt, hi⟩ := h.at_ hn
    exact ⟨b, off, e, hlt, fun i h => (hi i h).below hb hlt⟩⟩
theorem DosR.cut {w : World} {B n m : Nat} {A : Option Addr} {X : Nat → DoV} (h : DosR w B A n X) (hm : m ≤ n) : DosR w B A m X :=
  ⟨Nat.le_trans hm h.max, fun hn => by
    obtain ⟨b, off, e, hlt, hi⟩ := h.at_ (by omega)
    exact ⟨b, off, e, hlt, fun i h => hi i (by omega)⟩⟩

theorem i64_bounds {n : Int} (h : (Lit.int .i64 n).wf = true) : -9223372036854775808 ≤ n ∧ n ≤ 9223372036854775807 := by
  simp [Lit.wf, IntKind.min, IntKind.max, IntKind.bits, IntKind.signed] at h
  omega
theorem u8_bounds {n : Int} (h : (Lit.int .u8 n).wf = true) : 0 ≤ n ∧ n ≤ 255 := by
  simp [Lit.wf, IntKind.min, IntKind.max, IntKind.bits, IntKind.signed] at h
  omega

theorem open_dos {H : Type} {enc : TypeId × Value → H} {w : World} {base : Nat} {spare : Nat → Bool} {held : Bool} {fuel : Nat} {v : Value} {x : DataW H × List MemPlace} (hlt : ∀ p ∈ x.2, p.block < w.heap.size)
    (h : DataW.trod enc Tryz.prog w base spare held fuel 22 [v] = some x) : ∃ A n c X, v = .slice A n c ∧ n ≤ c ∧ c ≤ maxLen ∧ DosR w w.heap.size A n X := by
  have hC : Tryz.prog.cellsOf 31 = 5 := by kernel_rfl
  have hC3 : Tryz.prog.cellsOf 3 = 1 := by kernel_rfl
  have hC5 : Tryz.prog.cellsOf 5 = 1 := by kernel_rfl
  have hCF : Tryz.prog.cellsOf 29 = 1 := by kernel_rfl
  obtain ⟨A, n, c, rfl, hnc, hm, _, hc⟩ := open_structs Tryz.underlying22 Tryz.underlying31 rfl rfl hC3 (by rw [hC]; omega) hlt h
  rcases Nat.eq_zero_or_pos n with h0 | h0
  · subst h0
    exact ⟨A, 0, c, default, rfl, hnc, hm, by omega, fun h => absurd h (by omega)⟩
  · obtain ⟨b, off, rfl, hb, hf⟩ := hc h0
    have hall : ∀ i, i < n → ∃ x : DoV, DoAt w w.heap.size b (off + i * 5) x := by
      intro i hi
      obtain ⟨u0, y0, m0, k0, t0, _⟩ := hf i hi 0 _ rfl hC3 (by rw [hC]; decide)
      obtain ⟨u1, y1, m1, k1, t1, _⟩ := hf i hi 1 _ rfl hC3 (by rw [hC]; decide)
      obtain ⟨u2, y2, m2, k2, t2, _⟩ := hf i hi 2 _ rfl hC3 (by rw [hC]; decide)
      obtain ⟨u3, y3, m3, k3, t3, _⟩ := hf i hi 3 _ rfl hC5 (by rw [hC]; decide)
      obtain ⟨u4, y4, m4, k4, t4, l4⟩ := hf i hi 4 _ rfl hCF (by rw [hC]; decide)
      obtain ⟨z0, e0, _, w0⟩ := DataW.trod_int Tryz.underlying3 t0
      obtain ⟨z1, e1, _, w1⟩ := DataW.trod_int Tryz.underlying3 t1
      obtain ⟨z2, e2, _, w2⟩ := DataW.trod_int Tryz.underlying3 t2
      obtain ⟨z3, e3, _, w3⟩ := DataW.trod_int Tryz.underlying5 t3
      obtain ⟨F, fn, fc, fs, e4, hF, hnil⟩ := open_fates l4 t4
      simp only [List.cons.injEq, and_true] at e0 e1 e2 e3
      subst e0 e1 e2 e3 e4
      rw [hC, ← Nat.add_assoc] at k0 k1 k2 k3 k4
      exact ⟨⟨z0, z1, z2, z3, F, fn, fc, fs⟩, k0, k1, k2, k3, k4, i64_bounds w0, i64_bounds w1, i64_bounds w2, u8_bounds w3, hF, hnil⟩
    obtain ⟨X, hX⟩ := choose_lt hall
    exact ⟨_, n, c, X, rfl, hnc, hm, by unfold maxLen at hm; omega, fun _ => ⟨b, off, rfl, hb, hX⟩⟩
end Go.Proofs.YtmblonmpiomjgaaGreat
