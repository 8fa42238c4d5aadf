/-
  ytfheikmjjijdpaadoor: laws and walks on the road to LogKeeps, joined: OpR OpK. Conditions stand at each theorem.
-/
import Derived.Test.YtfheikmjjijdpaaDoorQKmX
import Derived.Test.YtfheikmjjijdpaaDoorQRecB
namespace Go.Proofs.YtfheikmjjijdpaaDoor
open Go.RowKit Go.ChangeShapes Go.WideShapes Go.Deep
set_option linter.unusedVariables false

section
variable {H : Type} {enc : TypeId × Value → H} {P : Program} {w : World} {base : Nat} {spare : Nat → Bool} {held : Bool} {fuel : Nat}
theorem few_of {n : Nat} {t e : TypeId} {d : DataW H} (hz : ∀ m ∈ d.weights P t, m ≤ reachBytes) (hu : P.underlying t = some (.slice e)) (hb : 1 ≤ P.bytesOf e) (hn : n = 0 ∨ ∃ e s, d = .slice e s ∧ n ≤ e.length + s.length) : n ≤ 140737488355328 := by
  rcases hn with h0 | ⟨el, s, rfl, hn⟩
  · omega
  · have h1 := hz ((el.length + s.length) * P.bytesOf e) (by simp [DataW.weights, hu])
    have h2 := reachBytes_lt
    have h3 : (el.length + s.length) * 1 ≤ (el.length + s.length) * P.bytesOf e := Nat.mul_le_mul_left _ hb
    omega
theorem weights_agg {t : TypeId} {fs : Array Field} {xs : List (DataW H × List MemPlace)} {x : DataW H} (hx : x = .agg (xs.map (·.1))) (hu : P.underlying t = some (.struct fs)) (hz : ∀ m ∈ x.weights P t, m ≤ reachBytes) (i : Nat) (f : Field) (hf : fs[i]? = some f) (y : DataW H × List MemPlace) (hy : xs[i]? = some y) :
    ∀ m ∈ y.1.weights P f.type, m ≤ reachBytes := by
  intro m hm
  refine hz m ?_
  subst hx
  simp only [DataW.weights, hu]
  exact DataW.weights_mem_each (j := i) (t := f.type) (d := y.1) (by simp [hf]) (by simp [hy]) m hm
theorem open_pairs {t e : TypeId} {f0 f1 : Field} {v : Value} {x : DataW H × List MemPlace} (ht : P.underlying t = some (.slice e)) (he : P.underlying e = some (.struct #[f0, f1])) (hc : P.cellsOf e = 2) (ho0 : f0.offset = 0) (ho1 : f1.offset = 1) (hc0 : P.cellsOf f0.type = 1) (hc1 : P.cellsOf f1.type = 1)
    (hu0 : P.underlying f0.type = some (.int .i64)) (hu1 : P.underlying f1.type = some (.int .i64)) (h : DataW.trod enc P w base spare held fuel t [v] = some x) :
    ∃ A n c l, v = .slice A n c ∧ CelR w A (n * 2) (pairC l) ∧ l.length = n ∧ (A = none → n = 0 ∧ c = 0) ∧ n ≤ c ∧ c ≤ maxLen ∧ (∀ p ∈ l, I64 p.1 ∧ I64 p.2) ∧ (n = 0 ∨ ∃ e s, x.1 = .slice e s ∧ n ≤ e.length + s.length) := by
  rcases open_slice ht h with ⟨hcs, hx⟩ | ⟨a, len, cap, m, k, D, Pl, hcs, hb, hl, hm, hmm, hx, hi⟩
  · exact ⟨none, 0, 0, [], by simpa using hcs, CelR.none_ w, rfl, fun _ => ⟨rfl, rfl⟩, Nat.le_refl _, Nat.zero_le _, by simp, .inl rfl⟩
  · have hle : len ≤ m := by rw [hmm]; split <;> omega
    have key : ∀ i, i < len → ∃ p : Int × Int, (I64 p.1 ∧ I64 p.2) ∧ w.cell? (a.add (i * 2)) = some (.int .i64 p.1) ∧ w.cell? (a.add (i * 2 + 1)) = some (.int .i64 p.2) := by
      intro i hil
      obtain ⟨cs', hcs', ht'⟩ := hi i (by omega)
      obtain ⟨ys, n', _, hy, hlen, hyl, hf⟩ := DataW.trod_struct he ht'
      obtain ⟨_, hcl, hat⟩ := World.cells?_some hcs'
      rw [hc] at hcl
      match cs', hcl with
      | [u0, u1], _ =>
        have g0 := hf 0 f0 rfl
        have g1 := hf 1 f1 rfl
        rw [ho0, hc0] at g0
        rw [ho1, hc1] at g1
        change DataW.trod enc P w base spare held n' f0.type [u0] = ys[0]? at g0
        change DataW.trod enc P w base spare held n' f1.type [u1] = ys[1]? at g1
        have hys : ys.length = 2 := hyl
        obtain ⟨z0, e0, _, w0⟩ := DataW.trod_int hu0 (g0.trans (List.getElem?_eq_getElem (by omega)))
        obtain ⟨z1, e1, _, w1⟩ := DataW.trod_int hu1 (g1.trans (List.getElem?_eq_getElem (by omega)))
        simp only [List.cons.injEq, and_true] at e0 e1
        subst e0 e1
        have c0 := hat 0 (by rw [hc]; omega)
        have c1 := hat 1 (by rw [hc]; omega)
        rw [hc, Go.Deep.add_add] at c0 c1
        exact ⟨(z0, z1), ⟨i64b w0, i64b w1⟩, c0, c1⟩
    obtain ⟨p, hp⟩ := choose_lt key
    have hll : ((List.range len).map p).length = len := by simp
    refine ⟨some a, len, cap, (List.range len).map p, by simpa using hcs, ⟨by rw [pairC_length, hll], fun h0 => ?_⟩, hll, (fun e => by cases e), hl, hm, ?_, .inr ⟨_, _, by rw [hx], by simp⟩⟩
    · obtain ⟨_, h1, _⟩ := hp 0 (by omega)
      have h2 : w.cell? a = some (.int .i64 (p 0).1) := by simpa [Addr.add] using h1
      have h3 := plain_addr h2
      refine ⟨a.block, a.off, by rw [← h3], fun j hj => ?_⟩
      obtain ⟨i, hij⟩ : ∃ i, j = i * 2 ∨ j = i * 2 + 1 := ⟨j / 2, by omega⟩
      have hil : i < len := by omega
      obtain ⟨_, k0, k1⟩ := hp i hil
      rw [h3, Addr.add_mid] at k0 k1
      rcases hij with rfl | rfl
      · rw [k0, pairC_fst _ i (by rw [hll]; exact hil)]
        simp [fstAt, hil]
      · rw [k1, pairC_snd _ i (by rw [hll]; exact hil)]
        simp [sndAt, hil]
    · intro q hq
      obtain ⟨i, hil, rfl⟩ := List.mem_map.1 hq
      exact (hp i (List.mem_range.1 hil)).1
end
theorem sized_each {H : Type} {P : Program} {ts : List TypeId} {ds : List (DataW H)} (h : (DataW.weightsEach P ts ds).all (· ≤ reachBytes) = true) {j : Nat} {t : TypeId} {d : DataW H} (ht : ts[j]? = some t) (hd : ds[j]? = some d) : ∀ m ∈ d.weights P t, m ≤ reachBytes := fun m hm => by
  simpa using List.all_eq_true.1 h _ (DataW.weights_mem_each ht hd m hm)
theorem SlB.of_ok {w : World} {A : Option Addr} {n c : Nat} {zs : List Int} (h : BytsOk w A n c zs) (hn : n ≤ 140737488355328) : SlB w ⟨A, n, c⟩ zs := ⟨h.1, h.2.2.1, h.2.2.2, hn⟩

set_option maxRecDepth 100000 in
theorem open_turn {H : Type} {enc : TypeId × Value → H} {w : World} {base : Nat} {spare : Nat → Bool} {held : Bool} {fuel : Nat} {v0 v1 v2 : Value} {x : DataW H × List MemPlace}
    (h : DataW.trod enc Tryd.prog w base spare held fuel 35 [v0, v1, v2] = some x) (hz : ∀ m ∈ x.1.weights Tryd.prog 35, m ≤ reachBytes) :
    ∃ K O N key old new, v0 = .slice K.A K.n K.c ∧ v1 = .slice O.A O.n O.c ∧ v2 = .slice N.A N.n N.c ∧ SlB w K key ∧ SlB w O old ∧ SlB w N new ∧ (∀ z ∈ key, isByte z) ∧ (∀ z ∈ old, isByte z) ∧ (∀ z ∈ new, isByte z) := by
  have hCB : Tryd.prog.cellsOf 33 = 1 := by kernel_rfl
  obtain ⟨ys, n', _, hy, hlen, hyl, hf⟩ := DataW.trod_struct Tryd.underlying35 h
  have hys : ys.length = 3 := hyl
  have g0 := hf 0 _ rfl
  have g1 := hf 1 _ rfl
  have g2 := hf 2 _ rfl
  change DataW.trod enc Tryd.prog w base spare held n' 33 (([v0, v1, v2].drop 0).take (Tryd.prog.cellsOf 33)) = ys[0]? at g0
  change DataW.trod enc Tryd.prog w base spare held n' 33 (([v0, v1, v2].drop 1).take (Tryd.prog.cellsOf 33)) = ys[1]? at g1
  change DataW.trod enc Tryd.prog w base spare held n' 33 (([v0, v1, v2].drop 2).take (Tryd.prog.cellsOf 33)) = ys[2]? at g2
  rw [hCB] at g0 g1 g2
  have s0 : ys[0]? = some (ys[0]'(by omega)) := List.getElem?_eq_getElem (by omega)
  have s1 : ys[1]? = some (ys[1]'(by omega)) := List.getElem?_eq_getElem (by omega)
  have s2 : ys[2]? = some (ys[2]'(by omega)) := List.getElem?_eq_getElem (by omega)
  obtain ⟨A0, n0, c0, z0, e0, k0, q0⟩ := open_byts (v := v0) (g0.trans s0)
  obtain ⟨A1, n1, c1, z1, e1, k1, q1⟩ := open_byts (v := v1) (g1.trans s1)
  obtain ⟨A2, n2, c2, z2, e2, k2, q2⟩ := open_byts (v := v2) (g2.trans s2)
  have hx : x.1 = .agg (ys.map (·.1)) := by rw [hy]
  have hB : 1 ≤ Tryd.prog.bytesOf 5 := by rw [show Tryd.prog.bytesOf 5 = 1 by kernel_rfl]; exact Nat.le_refl _
  have f0 := few_of (weights_agg hx Tryd.underlying35 hz 0 _ rfl _ s0) Tryd.underlying33 hB q0
  have f1 := few_of (weights_agg hx Tryd.underlying35 hz 1 _ rfl _ s1) Tryd.underlying33 hB q1
  have f2 := few_of (weights_agg hx Tryd.underlying35 hz 2 _ rfl _ s2) Tryd.underlying33 hB q2
  exact ⟨⟨A0, n0, c0⟩, ⟨A1, n1, c1⟩, ⟨A2, n2, c2⟩, z0, z1, z2, e0, e1, e2, SlB.of_ok k0 f0, SlB.of_ok k1 f1, SlB.of_ok k2 f2, k0.2.1, k1.2.1, k2.2.1⟩

set_option maxRecDepth 100000 in
theorem open_record {H : Type} {enc : TypeId × Value → H} {w : World} {base : Nat} {spare : Nat → Bool} {held : Bool} {fuel : Nat} {cs : Array Value} {x : DataW H × List MemPlace}
    (h : DataW.trod enc Tryd.prog w base spare held fuel 39 cs.toList = some x) (hz : ∀ m ∈ x.1.weights Tryd.prog 39, m ≤ reachBytes) : ∃ R S, cs = recC R S ∧ RecIs w R S ∧ R.Ok := by
  have hC : Tryd.prog.cellsOf 39 = 11 := by kernel_rfl
  have hC6 : Tryd.prog.cellsOf 2 = 1 := by kernel_rfl
  have hC3 : Tryd.prog.cellsOf 3 = 1 := by kernel_rfl
  have hCK : Tryd.prog.cellsOf 32 = 1 := by kernel_rfl
  have hCT : Tryd.prog.cellsOf 35 = 3 := by kernel_rfl
  have hCD : Tryd.prog.cellsOf 36 = 1 := by kernel_rfl
  have hCO : Tryd.prog.cellsOf 37 = 1 := by kernel_rfl
  obtain ⟨ys, n', _, hy, hlen, hyl, hf⟩ := DataW.trod_struct Tryd.underlying39 h
  rw [hC] at hlen
  obtain ⟨l⟩ := cs
  simp only at hlen hf h
  match l, hlen with
  | [v0, v1, v2, v3, v4, v5, v6, v7, v8, v9, v10], _ =>
    have hys : ys.length = 9 := hyl
    have g0 := hf 0 _ rfl
    have g1 := hf 1 _ rfl
    have g2 := hf 2 _ rfl
    have g3 := hf 3 _ rfl
    have g4 := hf 4 _ rfl
    have g5 := hf 5 _ rfl
    have g6 := hf 6 _ rfl
    have g7 := hf 7 _ rfl
    have g8 := hf 8 _ rfl
    change DataW.trod enc Tryd.prog w base spare held n' 2 (([v0, v1, v2, v3, v4, v5, v6, v7, v8, v9, v10].drop 0).take (Tryd.prog.cellsOf 2)) = ys[0]? at g0
    change DataW.trod enc Tryd.prog w base spare held n' 2 (([v0, v1, v2, v3, v4, v5, v6, v7, v8, v9, v10].drop 1).take (Tryd.prog.cellsOf 2)) = ys[1]? at g1
    change DataW.trod enc Tryd.prog w base spare held n' 2 (([v0, v1, v2, v3, v4, v5, v6, v7, v8, v9, v10].drop 2).take (Tryd.prog.cellsOf 2)) = ys[2]? at g2
    change DataW.trod enc Tryd.prog w base spare held n' 2 (([v0, v1, v2, v3, v4, v5, v6, v7, v8, v9, v10].drop 3).take (Tryd.prog.cellsOf 2)) = ys[3]? at g3
    change DataW.trod enc Tryd.prog w base spare held n' 32 (([v0, v1, v2, v3, v4, v5, v6, v7, v8, v9, v10].drop 4).take (Tryd.prog.cellsOf 32)) = ys[4]? at g4
    change DataW.trod enc Tryd.prog w base spare held n' 3 (([v0, v1, v2, v3, v4, v5, v6, v7, v8, v9, v10].drop 5).take (Tryd.prog.cellsOf 3)) = ys[5]? at g5
    change DataW.trod enc Tryd.prog w base spare held n' 35 (([v0, v1, v2, v3, v4, v5, v6, v7, v8, v9, v10].drop 6).take (Tryd.prog.cellsOf 35)) = ys[6]? at g6
    change DataW.trod enc Tryd.prog w base spare held n' 36 (([v0, v1, v2, v3, v4, v5, v6, v7, v8, v9, v10].drop 9).take (Tryd.prog.cellsOf 36)) = ys[7]? at g7
    change DataW.trod enc Tryd.prog w base spare held n' 37 (([v0, v1, v2, v3, v4, v5, v6, v7, v8, v9, v10].drop 10).take (Tryd.prog.cellsOf 37)) = ys[8]? at g8
    rw [hC6] at g0 g1 g2 g3
    rw [hCK] at g4
    rw [hC3] at g5
    rw [hCT] at g6
    rw [hCD] at g7
    rw [hCO] at g8
    have ss : ∀ j, (hj : j < 9) → ys[j]? = some (ys[j]'(by omega)) := fun j hj => List.getElem?_eq_getElem (by omega)
    obtain ⟨a0, e0, _, j0⟩ := DataW.trod_int Tryd.underlying2 (g0.trans (ss 0 (by omega)))
    obtain ⟨a1, e1, _, j1⟩ := DataW.trod_int Tryd.underlying2 (g1.trans (ss 1 (by omega)))
    obtain ⟨a2, e2, _, j2⟩ := DataW.trod_int Tryd.underlying2 (g2.trans (ss 2 (by omega)))
    obtain ⟨a3, e3, _, j3⟩ := DataW.trod_int Tryd.underlying2 (g3.trans (ss 3 (by omega)))
    obtain ⟨a4, e4, _, j4⟩ := DataW.trod_int Tryd.underlying32 (g4.trans (ss 4 (by omega)))
    obtain ⟨a5, e5, _, j5⟩ := DataW.trod_int Tryd.underlying3 (g5.trans (ss 5 (by omega)))
    have hx : x.1 = .agg (ys.map (·.1)) := by rw [hy]
    obtain ⟨K, O, N, key, old, new, e6, e7, e8, k6, k7, k8, b6, b7, b8⟩ := open_turn (v0 := v6) (v1 := v7) (v2 := v8) (g6.trans (ss 6 (by omega))) (weights_agg hx Tryd.underlying39 hz 6 _ rfl _ (ss 6 (by omega)))
    obtain ⟨A7, n7, c7, l7, e9, k9, ln9, nl9, le9, mx9, ok9, q9⟩ := open_pairs (v := v9) Tryd.underlying36 Tryd.underlying95 (by kernel_rfl) rfl rfl (by kernel_rfl) (by kernel_rfl) Tryd.underlying3 Tryd.underlying2 (g7.trans (ss 7 (by omega)))
    obtain ⟨A8, n8, c8, l8, e10, k10, ln10, nl10, le10, mx10, ok10, q10⟩ := open_pairs (v := v10) Tryd.underlying37 Tryd.underlying97 (by kernel_rfl) rfl rfl (by kernel_rfl) (by kernel_rfl) Tryd.underlying2 Tryd.underlying2 (g8.trans (ss 8 (by omega)))
    have f9 := few_of (weights_agg hx Tryd.underlying39 hz 7 _ rfl _ (ss 7 (by omega))) Tryd.underlying36 (by rw [show Tryd.prog.bytesOf 95 = 16 by kernel_rfl]; omega) q9
    have f10 := few_of (weights_agg hx Tryd.underlying39 hz 8 _ rfl _ (ss 8 (by omega))) Tryd.underlying37 (by rw [show Tryd.prog.bytesOf 97 = 16 by kernel_rfl]; omega) q10
    replace e0 : v0 = _ := List.head_eq_of_cons_eq e0
    replace e1 : v1 = _ := List.head_eq_of_cons_eq e1
    replace e2 : v2 = _ := List.head_eq_of_cons_eq e2
    replace e3 : v3 = _ := List.head_eq_of_cons_eq e3
    replace e4 : v4 = _ := List.head_eq_of_cons_eq e4
    replace e5 : v5 = _ := List.head_eq_of_cons_eq e5
    subst e0 e1 e2 e3 e4 e5 e6 e7 e8 e9 e10
    exact ⟨⟨a0, a1, a2, a3, a4, a5, key, old, new, l7, l8⟩, ⟨K, O, N, ⟨A7, n7, c7⟩, ⟨A8, n8, c8⟩⟩, rfl,
      ⟨k6, k7, k8, ⟨k9, ln9, nl9, le9, mx9, f9⟩, ⟨k10, ln10, nl10, le10, mx10, f10⟩⟩, ⟨i64b j0, i64b j1, i64b j2, i64b j3, u8_wf j4, i64b j5, b6, b7, b8, ok9, ok10⟩⟩
end Go.Proofs.YtfheikmjjijdpaaDoor

namespace Go.Proofs.YtfheikmjjijdpaaDoor
open Go.RowKit Go.ChangeShapes Go.WideShapes Go.Deep
set_option linter.unusedVariables false

theorem weights_mem_all {H : Type} {P : Program} {e : TypeId} : ∀ {l : List (DataW H)} {d : DataW H}, d ∈ l → ∀ n ∈ d.weights P e, n ∈ DataW.weightsAll P e l
  | [], d, hd, n, hn => by cases hd
  | a :: l, d, hd, n, hn => by
    simp only [DataW.weightsAll, List.mem_append]
    rcases List.mem_cons.1 hd with rfl | hd
    · exact .inl hn
    · exact .inr (weights_mem_all hd n hn)
instance : Inhabited (Rec × RecS) := ⟨(⟨0, 0, 0, 0, 0, 0, [], [], [], [], []⟩, RecS.nil)⟩
set_option maxRecDepth 100000 in
theorem open_recs {H : Type} {enc : TypeId × Value → H} {w : World} {base : Nat} {spare : Nat → Bool} {held : Bool} {fuel : Nat} {v : Value} {x : DataW H × List MemPlace}
    (h : DataW.trod enc Tryd.prog w base spare held fuel 46 [v] = some x) (hz : ∀ m ∈ x.1.weights Tryd.prog 46, m ≤ reachBytes) : ∃ A n c rs, v = .slice A n c ∧ RecsR w A n c rs := by
  have hC : Tryd.prog.cellsOf 39 = 11 := by kernel_rfl
  rcases open_slice Tryd.underlying46 h with ⟨hcs, hx⟩ | ⟨a, len, cap, m, k, D, Pl, hcs, hb, hl, hm, hmm, hx, hi⟩
  · exact ⟨none, 0, 0, [], by simpa using hcs, ⟨rfl, Nat.le_refl _, Nat.zero_le _, CelR.none_ w, by simp⟩⟩
  · have hle : len ≤ m := by rw [hmm]; split <;> omega
    have key : ∀ i, i < len → ∃ r : Rec × RecS, (RecIs w r.1 r.2 ∧ r.1.Ok) ∧ ∀ k, k < 11 → w.cell? (a.add (i * 11 + k)) = (recC r.1 r.2)[k]? := by
      intro i hil
      obtain ⟨cs', hcs', ht'⟩ := hi i (by omega)
      obtain ⟨_, hcl, hat⟩ := World.cells?_some hcs'
      obtain ⟨R, S, e, hI, hO⟩ := open_record (cs := cs'.toArray) (x := (D i, Pl i)) ht' (fun q hq => hz q (by
        rw [hx]
        simp only [DataW.weights, Tryd.underlying46]
        refine List.mem_cons_of_mem _ (List.mem_append_left _ (weights_mem_all (List.mem_map.2 ⟨i, List.mem_range.2 hil, rfl⟩) q hq))))
      refine ⟨(R, S), ⟨hI, hO⟩, fun k hk => ?_⟩
      have h1 := hat k (by rw [hC]; exact hk)
      rw [hC, Go.Deep.add_add] at h1
      rw [h1]
      show cs'[k]? = (recC R S)[k]?
      rw [← e]
      simp
    obtain ⟨p, hp⟩ := choose_lt key
    have hlen : ((List.range len).map p).length = len := by simp
    refine ⟨some a, len, cap, (List.range len).map p, by simpa using hcs, ⟨hlen, hl, hm, ⟨by rw [rcells_length, hlen], fun h0 => ?_⟩, fun r hr => ?_⟩⟩
    · have h1 := (hp 0 (by omega)).2 0 (by omega)
      have h2 : w.cell? a = some (.int .i64 (p 0).1.lsn) := by
        have h9 : w.cell? (a.add 0) = some (.int .i64 (p 0).1.lsn) := h1
        simpa [Addr.add] using h9
      have h3 := plain_addr h2
      refine ⟨a.block, a.off, by rw [← h3], fun j hj => ?_⟩
      obtain ⟨i, kk, rfl, hk⟩ : ∃ i kk, j = i * 11 + kk ∧ kk < 11 := ⟨j / 11, j % 11, by omega, Nat.mod_lt _ (by omega)⟩
      have hil : i < len := by omega
      have h4 := (hp i hil).2 kk hk
      rw [h3, Addr.add_mid] at h4
      rw [h4, rcells_at (r := p i) (by simp [hil]) kk hk, Array.getElem?_toList]
    · obtain ⟨i, hir, rfl⟩ := List.mem_map.1 hr
      exact (hp i (List.mem_range.1 hir)).1
set_option maxRecDepth 100000 in
theorem open_fatL {H : Type} {enc : TypeId × Value → H} {w : World} {base : Nat} {spare : Nat → Bool} {held : Bool} {fuel : Nat} {v : Value} {x : DataW H × List MemPlace} (hlt : ∀ p ∈ x.2, p.block < w.heap.size)
    (h : DataW.trod enc Tryd.prog w base spare held fuel 47 [v] = some x) : ∃ A n c, v = .slice A n c ∧ FatL w A n c := by
  have hC : Tryd.prog.cellsOf 55 = 1 := by kernel_rfl
  rcases open_slice Tryd.underlying47 h with ⟨hcs, hx⟩ | ⟨a, len, cap, m, k, D, Pl, hcs, hb, hl, hm, hmm, hx, hi⟩
  · exact ⟨none, 0, 0, by simpa using hcs, ⟨Nat.le_refl _, Nat.zero_le _, fun h => absurd h (by omega)⟩⟩
  · have hle : len ≤ m := by rw [hmm]; split <;> omega
    have key : ∀ i, i < len → ∃ G mm cc fs, w.cell? (a.add i) = some (.slice G mm cc) ∧ FatesR w w.heap.size G mm fs ∧ mm ≤ cc ∧ cc ≤ maxLen := by
      intro i hil
      obtain ⟨cs', hcs', ht'⟩ := hi i (by omega)
      obtain ⟨_, hcl, hat⟩ := World.cells?_some hcs'
      rw [hC] at hcl
      match cs', hcl with
      | [u], _ =>
        obtain ⟨G, mm, cc, fs, e, hF, _⟩ := open_fates (x := (D i, Pl i)) (fun p hp => hlt p (by rw [hx]; exact List.mem_append_right _ (List.mem_flatMap.2 ⟨i, List.mem_range.2 (by omega), hp⟩))) ht'
        have h0 := hat 0 (by rw [hC]; omega)
        rw [hC, Go.Deep.add_add, Nat.mul_one, Nat.add_zero] at h0
        refine ⟨G, mm, cc, fs, by rw [h0]; simp [e], hF, ?_⟩
        rcases open_slice Tryd.underlying55 ht' with ⟨e2, _⟩ | ⟨a2, len2, cap2, _, _, _, _, e2, _, hl2, hm2, _⟩
        · rw [e] at e2
          simp only [List.cons.injEq, Value.slice.injEq, and_true] at e2
          obtain ⟨_, rfl, rfl⟩ := e2
          exact ⟨Nat.le_refl _, Nat.zero_le _⟩
        · rw [e] at e2
          simp only [List.cons.injEq, Value.slice.injEq, and_true] at e2
          obtain ⟨_, rfl, rfl⟩ := e2
          exact ⟨hl2, hm2⟩
    refine ⟨some a, len, cap, by simpa using hcs, ⟨hl, hm, fun h0 => ?_⟩⟩
    obtain ⟨G, mm, cc, fs, h1, _⟩ := key 0 h0
    have h2 : w.cell? a = some (.slice G mm cc) := by simpa [Addr.add] using h1
    have h3 := plain_addr h2
    refine ⟨a.block, a.off, by rw [← h3], fun j hj => ?_⟩
    have h4 := key j hj
    rw [h3, Addr.add_mid] at h4
    exact h4
end Go.Proofs.YtfheikmjjijdpaaDoor

