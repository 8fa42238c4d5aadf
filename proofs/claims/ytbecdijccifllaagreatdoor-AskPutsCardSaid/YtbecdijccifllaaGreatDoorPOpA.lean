/-
  A command that comes in as an argument, opened. No condition.
-/
import Derived.Test.YtbecdijccifllaaGreatDoorPOpB
import Derived.Test.YtbecdijccifllaaGreatDoorPAskR
import Derived.SliceStrings
namespace Go.Proofs.YtbecdijccifllaaGreatDoor
open Go.RowKit Go.ChangeShapes Go.WideShapes Go.Deep
set_option linter.unusedVariables false

section
variable {H : Type} {enc : TypeId × Value → H} {P : Program} {w : World} {base : Nat} {spare : Nat → Bool} {held : Bool} {fuel : Nat}
theorem open_texts {t e : TypeId} {v : Value} {x : DataW H × List MemPlace} (ht : P.underlying t = some (.slice e)) (he : P.underlying e = some .string) (hc : P.cellsOf e = 1) (h : DataW.trod enc P w base spare held fuel t [v] = some x) :
    ∃ s l, v = .slice s.A s.n s.c ∧ SlT w s l ∧ (∀ y ∈ l, strOk y) := by
  rcases open_strings ht he hc h with ⟨hcs, hx⟩ | ⟨a, len, cap, ss, hcs, hb, hl, hm, hz, hx, hcell, hwz⟩
  · exact ⟨⟨none, 0, 0⟩, [], by simpa using hcs, ⟨CelR.none_ w, rfl, fun _ => ⟨rfl, rfl⟩, Nat.le_refl _, Nat.zero_le _⟩, by simp⟩
  · have hle : len ≤ ss.length := by rw [hz]; split <;> omega
    have hlt : ((ss.take len).map fun b => b.data.toList).length = len := by rw [List.length_map, List.length_take]; omega
    refine ⟨⟨some a, len, cap⟩, (ss.take len).map fun b => b.data.toList, by simpa using hcs, ⟨⟨by rw [textC_length, hlt], fun h0 => ?_⟩, hlt, (fun e => by cases e), hl, hm⟩, fun y hy => ?_⟩
    · have h1 := hcell 0 (by simp only at h0; omega)
      have h2 : w.cell? a = some (.string (ss.getD 0 ByteArray.empty)) := by simpa [Addr.add] using h1
      have h3 := plain_addr h2
      refine ⟨a.block, a.off, by rw [← h3], fun j hj => ?_⟩
      simp only at hj
      have h4 := hcell j (by omega)
      rw [h3, Addr.add_mid] at h4
      rw [h4, textC_get _ j (by rw [hlt]; exact hj)]
      have hjs : j < ss.length := by omega
      simp only [List.getD_eq_getElem?_getD, List.getElem?_map, List.getElem?_take, if_pos hj, List.getElem?_eq_getElem hjs, Option.map_some, Option.getD_some]
      rfl
    · obtain ⟨b, hb2, rfl⟩ := List.mem_map.1 hy
      have := hwz b (List.mem_of_mem_take hb2)
      unfold strOk
      unfold maxLen at this
      simpa using this
theorem open_parts {t e : TypeId} {f0 f1 : Field} {v : Value} {x : DataW H × List MemPlace} (ht : P.underlying t = some (.slice e)) (he : P.underlying e = some (.struct #[f0, f1])) (hc : P.cellsOf e = 2) (ho0 : f0.offset = 0) (ho1 : f1.offset = 1) (hc0 : P.cellsOf f0.type = 1) (hc1 : P.cellsOf f1.type = 1)
    (hu0 : P.underlying f0.type = some .string) (hu1 : P.underlying f1.type = some (.int .i64)) (h : DataW.trod enc P w base spare held fuel t [v] = some x) :
    ∃ s l, v = .slice s.A s.n s.c ∧ SlQ w s l ∧ (∀ p ∈ l, strOk p.1 ∧ I64 p.2) := by
  rcases open_slice ht h with ⟨hcs, hx⟩ | ⟨a, len, cap, m, k, D, Pl, hcs, hb, hl, hm, hmm, hx, hi⟩
  · exact ⟨⟨none, 0, 0⟩, [], by simpa using hcs, ⟨CelR.none_ w, rfl, fun _ => ⟨rfl, rfl⟩, Nat.le_refl _, Nat.zero_le _⟩, by simp⟩
  · have hle : len ≤ m := by rw [hmm]; split <;> omega
    have key : ∀ i, i < len → ∃ p : List UInt8 × Int, (strOk p.1 ∧ I64 p.2) ∧ w.cell? (a.add (i * 2)) = some (strV p.1) ∧ w.cell? (a.add (i * 2 + 1)) = some (.int .i64 p.2) := by
      intro i hil
      obtain ⟨cs', hcs', ht'⟩ := hi i (by omega)
      obtain ⟨ys, n', _, hy, hlen, hyl, hf⟩ := DataW.trod_struct he ht'
      obtain ⟨_, hcl, hat⟩ := World.cells?_some hcs'
      rw [hc] at hcl
      match cs', hcl with
      | [u0, u1], _ =>
        have g0 := hf 0 f0 rfl
        have g1 := hf 1 f1 rfl
        rw [ho0, hc0] at g0
        rw [ho1, hc1] at g1
        change DataW.trod enc P w base spare held n' f0.type [u0] = ys[0]? at g0
        change DataW.trod enc P w base spare held n' f1.type [u1] = ys[1]? at g1
        have hys : ys.length = 2 := hyl
        obtain ⟨z0, e0, _, w0⟩ := DataW.trod_string hu0 (g0.trans (List.getElem?_eq_getElem (by omega)))
        obtain ⟨z1, e1, _, w1⟩ := DataW.trod_int hu1 (g1.trans (List.getElem?_eq_getElem (by omega)))
        simp only [List.cons.injEq, and_true] at e0 e1
        subst e0 e1
        have c0 := hat 0 (by rw [hc]; omega)
        have c1 := hat 1 (by rw [hc]; omega)
        rw [hc, Go.Deep.add_add] at c0 c1
        refine ⟨(z0.data.toList, z1), ⟨?_, i64b w1⟩, c0, c1⟩
        unfold strOk
        unfold maxLen at w0
        simpa using w0
    obtain ⟨p, hp⟩ := choose_lt key
    have hll : ((List.range len).map p).length = len := by simp
    refine ⟨⟨some a, len, cap⟩, (List.range len).map p, by simpa using hcs, ⟨⟨by rw [partC_length, hll], fun h0 => ?_⟩, hll, (fun e => by cases e), hl, hm⟩, ?_⟩
    · simp only at h0
      obtain ⟨_, h1, _⟩ := hp 0 (by omega)
      have h2 : w.cell? a = some (strV (p 0).1) := by simpa [Addr.add] using h1
      have h3 := plain_addr h2
      refine ⟨a.block, a.off, by rw [← h3], fun j hj => ?_⟩
      simp only at hj
      obtain ⟨i, hij⟩ : ∃ i, j = i * 2 ∨ j = i * 2 + 1 := ⟨j / 2, by omega⟩
      have hil : i < len := by omega
      obtain ⟨_, k0, k1⟩ := hp i hil
      rw [h3, Addr.add_mid] at k0 k1
      rcases hij with rfl | rfl
      · rw [k0, partC_fst _ i (by rw [hll]; exact hil)]
        simp [itemAt, hil]
      · rw [k1, partC_snd _ i (by rw [hll]; exact hil)]
        simp [qtyAt, hil]
    · intro q hq
      obtain ⟨i, hil, rfl⟩ := List.mem_map.1 hq
      exact (hp i (List.mem_range.1 hil)).1
end
set_option maxRecDepth 100000 in
theorem open_ask {H : Type} {enc : TypeId × Value → H} {w : World} {base : Nat} {spare : Nat → Bool} {held : Bool} {fuel : Nat} {cs : Array Value} {x : DataW H × List MemPlace}
    (h : DataW.trod enc Tryz.prog w base spare held fuel 26 cs.toList = some x) : ∃ a S, cs = askC a S ∧ AskIs w a S ∧ a.Ok := by
  have hC : Tryz.prog.cellsOf 26 = 11 := by kernel_rfl
  have hC6 : Tryz.prog.cellsOf 2 = 1 := by kernel_rfl
  have hC3 : Tryz.prog.cellsOf 3 = 1 := by kernel_rfl
  have hCS : Tryz.prog.cellsOf 9 = 1 := by kernel_rfl
  have hCK : Tryz.prog.cellsOf 22 = 1 := by kernel_rfl
  have hCP : Tryz.prog.cellsOf 23 = 1 := by kernel_rfl
  have hCT : Tryz.prog.cellsOf 24 = 1 := by kernel_rfl
  obtain ⟨ys, n', _, hy, hlen, hyl, hf⟩ := DataW.trod_struct Tryz.underlying26 h
  rw [hC] at hlen
  obtain ⟨l⟩ := cs
  simp only at hlen hf h
  match l, hlen with
  | [v0, v1, v2, v3, v4, v5, v6, v7, v8, v9, v10], _ =>
    have hys : ys.length = 11 := hyl
    have g0 := hf 0 _ rfl
    have g1 := hf 1 _ rfl
    have g2 := hf 2 _ rfl
    have g3 := hf 3 _ rfl
    have g4 := hf 4 _ rfl
    have g5 := hf 5 _ rfl
    have g6 := hf 6 _ rfl
    have g7 := hf 7 _ rfl
    have g8 := hf 8 _ rfl
    have g9 := hf 9 _ rfl
    have g10 := hf 10 _ rfl
    change DataW.trod enc Tryz.prog w base spare held n' 22 (([v0, v1, v2, v3, v4, v5, v6, v7, v8, v9, v10].drop 0).take (Tryz.prog.cellsOf 22)) = ys[0]? at g0
    rw [hCK] at g0
    change DataW.trod enc Tryz.prog w base spare held n' 2 (([v0, v1, v2, v3, v4, v5, v6, v7, v8, v9, v10].drop 1).take (Tryz.prog.cellsOf 2)) = ys[1]? at g1
    rw [hC6] at g1
    change DataW.trod enc Tryz.prog w base spare held n' 9 (([v0, v1, v2, v3, v4, v5, v6, v7, v8, v9, v10].drop 2).take (Tryz.prog.cellsOf 9)) = ys[2]? at g2
    rw [hCS] at g2
    change DataW.trod enc Tryz.prog w base spare held n' 2 (([v0, v1, v2, v3, v4, v5, v6, v7, v8, v9, v10].drop 3).take (Tryz.prog.cellsOf 2)) = ys[3]? at g3
    rw [hC6] at g3
    change DataW.trod enc Tryz.prog w base spare held n' 3 (([v0, v1, v2, v3, v4, v5, v6, v7, v8, v9, v10].drop 4).take (Tryz.prog.cellsOf 3)) = ys[4]? at g4
    rw [hC3] at g4
    change DataW.trod enc Tryz.prog w base spare held n' 3 (([v0, v1, v2, v3, v4, v5, v6, v7, v8, v9, v10].drop 5).take (Tryz.prog.cellsOf 3)) = ys[5]? at g5
    rw [hC3] at g5
    change DataW.trod enc Tryz.prog w base spare held n' 3 (([v0, v1, v2, v3, v4, v5, v6, v7, v8, v9, v10].drop 6).take (Tryz.prog.cellsOf 3)) = ys[6]? at g6
    rw [hC3] at g6
    change DataW.trod enc Tryz.prog w base spare held n' 3 (([v0, v1, v2, v3, v4, v5, v6, v7, v8, v9, v10].drop 7).take (Tryz.prog.cellsOf 3)) = ys[7]? at g7
    rw [hC3] at g7
    change DataW.trod enc Tryz.prog w base spare held n' 3 (([v0, v1, v2, v3, v4, v5, v6, v7, v8, v9, v10].drop 8).take (Tryz.prog.cellsOf 3)) = ys[8]? at g8
    rw [hC3] at g8
    change DataW.trod enc Tryz.prog w base spare held n' 23 (([v0, v1, v2, v3, v4, v5, v6, v7, v8, v9, v10].drop 9).take (Tryz.prog.cellsOf 23)) = ys[9]? at g9
    rw [hCP] at g9
    change DataW.trod enc Tryz.prog w base spare held n' 24 (([v0, v1, v2, v3, v4, v5, v6, v7, v8, v9, v10].drop 10).take (Tryz.prog.cellsOf 24)) = ys[10]? at g10
    rw [hCT] at g10
    have ss : ∀ j, (hj : j < 11) → ys[j]? = some (ys[j]'(by omega)) := fun j hj => List.getElem?_eq_getElem (by omega)
    obtain ⟨a0, e0, _, j0⟩ := DataW.trod_int Tryz.underlying22 (g0.trans (ss 0 (by omega)))
    obtain ⟨a1, e1, _, j1⟩ := DataW.trod_int Tryz.underlying2 (g1.trans (ss 1 (by omega)))
    obtain ⟨a2, e2, _, j2⟩ := DataW.trod_string Tryz.underlying9 (g2.trans (ss 2 (by omega)))
    obtain ⟨a3, e3, _, j3⟩ := DataW.trod_int Tryz.underlying2 (g3.trans (ss 3 (by omega)))
    obtain ⟨a4, e4, _, j4⟩ := DataW.trod_int Tryz.underlying3 (g4.trans (ss 4 (by omega)))
    obtain ⟨a5, e5, _, j5⟩ := DataW.trod_int Tryz.underlying3 (g5.trans (ss 5 (by omega)))
    obtain ⟨a6, e6, _, j6⟩ := DataW.trod_int Tryz.underlying3 (g6.trans (ss 6 (by omega)))
    obtain ⟨a7, e7, _, j7⟩ := DataW.trod_int Tryz.underlying3 (g7.trans (ss 7 (by omega)))
    obtain ⟨a8, e8, _, j8⟩ := DataW.trod_int Tryz.underlying3 (g8.trans (ss 8 (by omega)))
    obtain ⟨sp, lp, e9, k9, ok9⟩ := open_parts (v := v9) Tryz.underlying23 Tryz.underlying58 (by kernel_rfl) rfl rfl (by kernel_rfl) (by kernel_rfl) Tryz.underlying9 Tryz.underlying2 (g9.trans (ss 9 (by omega)))
    obtain ⟨so, lo, e10, k10, ok10⟩ := open_texts (v := v10) Tryz.underlying24 Tryz.underlying9 hCS (g10.trans (ss 10 (by omega)))
    replace e0 : v0 = _ := List.head_eq_of_cons_eq e0
    replace e1 : v1 = _ := List.head_eq_of_cons_eq e1
    replace e2 : v2 = _ := List.head_eq_of_cons_eq e2
    replace e3 : v3 = _ := List.head_eq_of_cons_eq e3
    replace e4 : v4 = _ := List.head_eq_of_cons_eq e4
    replace e5 : v5 = _ := List.head_eq_of_cons_eq e5
    replace e6 : v6 = _ := List.head_eq_of_cons_eq e6
    replace e7 : v7 = _ := List.head_eq_of_cons_eq e7
    replace e8 : v8 = _ := List.head_eq_of_cons_eq e8
    subst e0 e1 e2 e3 e4 e5 e6 e7 e8 e9 e10
    refine ⟨⟨a0, a1, a2.data.toList, a3, a4, a5, a6, a7, a8, lp, lo⟩, ⟨sp, so⟩, rfl, ⟨k9, k10⟩, ⟨u8_wf j0, i64b j1, ?_, i64b j3, i64b j4, i64b j5, i64b j6, i64b j7, i64b j8, ok9, ok10⟩⟩
    unfold strOk
    unfold maxLen at j2
    simpa using j2
end Go.Proofs.YtbecdijccifllaaGreatDoor

