/-
  A command, an answer, a tale that come in as arguments, opened: what they hold, and how many their lists are. No condition.
-/
import Derived.Test.YtglojnmcbochaaaGreatDoorTShf
import Derived.Test.YtglojnmcbochaaaGreatDoorTWrD
import Derived.SliceStrings
namespace Go.Proofs.YtglojnmcbochaaaGreatDoor
open Go.RowKit Go.ChangeShapes Go.WideShapes Go.Deep
set_option linter.unusedVariables false
set_option linter.unusedSimpArgs false

/-- How many elements a slice has, by its datum. -/
def FewD {H : Type} (n : Nat) (d : DataW H) : Prop := n = 0 ∨ ∃ e s, d = .slice e s ∧ n ≤ e.length + s.length
theorem fewD_of {H : Type} {P : Program} {n : Nat} {t e : TypeId} {d : DataW H} (hz : ∀ m ∈ d.weights P t, m ≤ reachBytes) (hu : P.underlying t = some (.slice e)) (hb : 1 ≤ P.bytesOf e) (hn : FewD n d) : n ≤ 140737488355328 := by
  rcases hn with h0 | ⟨el, s, rfl, hn⟩
  · omega
  · have h1 := hz ((el.length + s.length) * P.bytesOf e) (by simp [DataW.weights, hu])
    have h2 := reachBytes_lt
    have h3 : (el.length + s.length) * 1 ≤ (el.length + s.length) * P.bytesOf e := Nat.mul_le_mul_left _ hb
    omega
theorem weights_field {H : Type} {P : Program} {t : TypeId} {fs : Array Field} {xs : List (DataW H × List MemPlace)} {x : DataW H} (hx : x = .agg (xs.map (·.1))) (hu : P.underlying t = some (.struct fs)) (hz : ∀ m ∈ x.weights P t, m ≤ reachBytes) (i : Nat) (f : Field) (hf : fs[i]? = some f) (y : DataW H × List MemPlace) (hy : xs[i]? = some y) :
    ∀ m ∈ y.1.weights P f.type, m ≤ reachBytes := by
  intro m hm
  refine hz m ?_
  subst hx
  simp only [DataW.weights, hu]
  exact DataW.weights_mem_each (j := i) (t := f.type) (d := y.1) (by simp [hf]) (by simp [hy]) m hm
theorem weights_strD {H : Type} {P : Program} {t : TypeId} {b : List UInt8} {d : DataW H} (hd : d = .lit (.string b)) (hz : ∀ m ∈ d.weights P t, m ≤ reachBytes) : b.length ≤ 140737488355328 := by
  subst hd
  have h1 := hz b.length (by simp [DataW.weights])
  have h2 := reachBytes_lt
  omega
theorem sized_eachT {H : Type} {P : Program} {ts : List TypeId} {ds : List (DataW H)} (h : (DataW.weightsEach P ts ds).all (· ≤ reachBytes) = true) {j : Nat} {t : TypeId} {d : DataW H} (ht : ts[j]? = some t) (hd : ds[j]? = some d) : ∀ m ∈ d.weights P t, m ≤ reachBytes := fun m hm => by
  simpa using List.all_eq_true.1 h _ (DataW.weights_mem_each ht hd m hm)
/-- A slice of elements of q cells each, opened. -/
theorem open_elems {α H : Type} [Inhabited α] {enc : TypeId × Value → H} {P : Program} {w : World} {base : Nat} {spare : Nat → Bool} {held : Bool} {fuel : Nat} (f : α → List Value) (Ok : α → Prop) (q : Nat) {t e : TypeId} {v : Value} {x : DataW H × List MemPlace} (ht : P.underlying t = some (.slice e)) (hc : P.cellsOf e = q) (hq : 0 < q) (hf : ∀ y, (f y).length = q)
    (hel : ∀ cs y n, cs.length = q → DataW.trod enc P w base spare held n e cs = some y → ∃ a, cs = f a ∧ Ok a) (h : DataW.trod enc P w base spare held fuel t [v] = some x) :
    ∃ (s : Sl) (l : List α), v = .slice s.A s.n s.c ∧ SlE w q s (l.flatMap f) ∧ l.length = s.n ∧ (∀ a ∈ l, Ok a) ∧ FewD s.n x.1 := by
  rcases open_slice ht h with ⟨hcs, hx⟩ | ⟨a, len, cap, m, k, D, Pl, hcs, hb, hl, hm, hmm, hx, hi⟩
  · exact ⟨⟨none, 0, 0⟩, [], by simpa using hcs, SlE.none_ w q, rfl, by simp, .inl rfl⟩
  · have hle : len ≤ m := by rw [hmm]; split <;> omega
    have key : ∀ i, i < len → ∃ z : α, Ok z ∧ ∀ j, j < q → w.cell? (a.add (i * q + j)) = (f z)[j]? := by
      intro i hil
      obtain ⟨cs', hcs', ht'⟩ := hi i (by omega)
      obtain ⟨_, hcl, hat⟩ := World.cells?_some hcs'
      rw [hc] at hcl
      obtain ⟨z, hz, ho⟩ := hel cs' _ _ hcl ht'
      refine ⟨z, ho, fun j hj => ?_⟩
      have := hat j (by rw [hc]; exact hj)
      rw [hc, Go.Deep.add_add] at this
      rw [this, hz]
    obtain ⟨p, hp⟩ := choose_lt key
    have hll : ((List.range len).map p).length = len := by simp
    refine ⟨⟨some a, len, cap⟩, (List.range len).map p, by simpa using hcs, ⟨⟨?_, fun h0 => ?_⟩, (fun e => by cases e), hl, hm⟩, hll, ?_, .inr ⟨_, _, by rw [hx], by simp⟩⟩
    · rw [flat_len f q hf, hll]
    · simp only at h0
      have hl0 : 0 < len := Nat.pos_of_ne_zero (fun e => by rw [e, Nat.zero_mul] at h0; omega)
      have h1 := (hp 0 hl0).2 0 hq
      have hv0 : (f (p 0))[0]? = some ((f (p 0))[0]'(by rw [hf]; exact hq)) := List.getElem?_eq_getElem _
      rw [hv0] at h1
      have h2 : w.cell? a = some ((f (p 0))[0]'(by rw [hf]; exact hq)) := by simpa [Addr.add] using h1
      have h3 := plain_addr h2
      refine ⟨a.block, a.off, by rw [← h3], fun j hj => ?_⟩
      simp only at hj
      have hjq : j = (j / q) * q + j % q := by rw [Nat.mul_comm]; exact (Nat.div_add_mod j q).symm
      have hil : j / q < len := by rw [Nat.div_lt_iff_lt_mul hq]; exact hj
      have hk := (hp (j / q) hil).2 (j % q) (Nat.mod_lt _ hq)
      rw [← hjq, h3, Addr.add_mid] at hk
      rw [hk]
      have hfl := flat_at f q hf (p 0) ((List.range len).map p) (j / q) (j % q) (by rw [hll]; exact hil) (Nat.mod_lt _ hq)
      rw [← hjq] at hfl
      rw [hfl]
      simp [List.getD_eq_getElem?_getD, hil]
    · intro z hz
      obtain ⟨i, hil, rfl⟩ := List.mem_map.1 hz
      exact (hp i (List.mem_range.1 hil)).1
section
variable {H : Type} {enc : TypeId × Value → H} {w : World} {base : Nat} {spare : Nat → Bool} {held : Bool} {fuel : Nat}
theorem flat_one (l : List (List UInt8)) : l.flatMap (fun y : List UInt8 => [strV y]) = textC l := by
  induction l with
  | nil => rfl
  | cons y l ih =>
    rw [List.flatMap_cons, ih]
    rfl
theorem strOk_of {s : ByteArray} (h : s.size ≤ maxLen) : strOk s.data.toList := by
  unfold strOk
  unfold maxLen at h
  simpa using h
set_option maxRecDepth 100000 in
theorem open_textsT {v : Value} {x : DataW H × List MemPlace} (h : DataW.trod enc Tryz.prog w base spare held fuel 26 [v] = some x) : ∃ s l, v = .slice s.A s.n s.c ∧ SlT w s l ∧ (∀ y ∈ l, strOk y) ∧ FewD s.n x.1 := by
  obtain ⟨s, l, h1, h2, h3, h4, h5⟩ := open_elems (fun y : List UInt8 => [strV y]) strOk 1 Tryz.underlying26 (by kernel_rfl) (by omega) (fun _ => rfl) (fun cs y n hcl ht => by
    obtain ⟨z, e, _, w0⟩ := DataW.trod_string Tryz.underlying9 ht
    exact ⟨z.data.toList, e, strOk_of w0⟩) h
  rw [flat_one] at h2
  have hc := h2.cel
  rw [Nat.mul_one] at hc
  exact ⟨s, l, h1, ⟨hc, h3, h2.nil_, h2.le, h2.max⟩, h4, h5⟩
set_option maxRecDepth 100000 in
theorem open_partsT {v : Value} {x : DataW H × List MemPlace} (h : DataW.trod enc Tryz.prog w base spare held fuel 25 [v] = some x) : ∃ s l, v = .slice s.A s.n s.c ∧ SlQ w s l ∧ (∀ p ∈ l, strOk p.1 ∧ I64 p.2) ∧ FewD s.n x.1 := by
  have hCS : Tryz.prog.cellsOf 9 = 1 := by kernel_rfl
  have hC6 : Tryz.prog.cellsOf 2 = 1 := by kernel_rfl
  obtain ⟨s, l, h1, h2, h3, h4, h5⟩ := open_elems (fun p : List UInt8 × Int => [strV p.1, .int .i64 p.2]) (fun p => strOk p.1 ∧ I64 p.2) 2 Tryz.underlying25 (by kernel_rfl) (by omega) (fun _ => rfl) (fun cs y n hcl ht => by
    obtain ⟨ys, n', _, hy, hlen, hyl, hf⟩ := DataW.trod_struct Tryz.underlying62 ht
    match cs, hcl with
    | [u0, u1], _ =>
      have hys : ys.length = 2 := hyl
      have g0 := hf 0 _ rfl
      have g1 := hf 1 _ rfl
      change DataW.trod enc Tryz.prog w base spare held n' 9 (([u0, u1].drop 0).take (Tryz.prog.cellsOf 9)) = ys[0]? at g0
      rw [hCS] at g0
      change DataW.trod enc Tryz.prog w base spare held n' 2 (([u0, u1].drop 1).take (Tryz.prog.cellsOf 2)) = ys[1]? at g1
      rw [hC6] at g1
      have ss : ∀ j, (hj : j < 2) → ys[j]? = some (ys[j]'(by omega)) := fun j hj => List.getElem?_eq_getElem (by omega)
      obtain ⟨a0, e0, q0, j0⟩ := DataW.trod_string Tryz.underlying9 (g0.trans (ss 0 (by omega)))
      obtain ⟨a1, e1, _, j1⟩ := DataW.trod_int Tryz.underlying2 (g1.trans (ss 1 (by omega)))
      simp only [List.drop_zero, List.drop_succ_cons, List.take_succ_cons, List.take_zero, List.cons.injEq, and_true] at e0 e1
      subst e0 e1
      exact ⟨(a0.data.toList, a1), rfl, strOk_of j0, i64b j1⟩) h
  exact ⟨s, l, h1, ⟨h2.cel, h3, h2.nil_, h2.le, h2.max⟩, h4, h5⟩
set_option maxRecDepth 100000 in
theorem open_lotsT {v : Value} {x : DataW H × List MemPlace} (h : DataW.trod enc Tryz.prog w base spare held fuel 39 [v] = some x) : ∃ s l, v = .slice s.A s.n s.c ∧ SlL w s l ∧ (∀ y ∈ l, y.Ok) ∧ FewD s.n x.1 := by
  have hC3 : Tryz.prog.cellsOf 3 = 1 := by kernel_rfl
  have hCS : Tryz.prog.cellsOf 9 = 1 := by kernel_rfl
  have hCW : Tryz.prog.cellsOf 58 = 2 := by kernel_rfl
  have hC6 : Tryz.prog.cellsOf 2 = 1 := by kernel_rfl
  have hCB : Tryz.prog.cellsOf 4 = 1 := by kernel_rfl
  haveI : Inhabited LotV := ⟨LotV.zero⟩
  obtain ⟨s, l, h1, h2, h3, h4, h5⟩ := open_elems lot6 LotV.Ok 6 Tryz.underlying39 (by kernel_rfl) (by omega) (fun _ => rfl) (fun cs y n hcl ht => by
    obtain ⟨ys, n', _, hy, hlen, hyl, hf⟩ := DataW.trod_struct Tryz.underlying60 ht
    match cs, hcl with
    | [u0, u1, u2, u3, u4, u5], _ =>
      have hys : ys.length = 5 := hyl
      have g0 := hf 0 _ rfl
      have g1 := hf 1 _ rfl
      have g2 := hf 2 _ rfl
      have g3 := hf 3 _ rfl
      have g4 := hf 4 _ rfl
      change DataW.trod enc Tryz.prog w base spare held n' 3 (([u0, u1, u2, u3, u4, u5].drop 0).take (Tryz.prog.cellsOf 3)) = ys[0]? at g0
      rw [hC3] at g0
      change DataW.trod enc Tryz.prog w base spare held n' 9 (([u0, u1, u2, u3, u4, u5].drop 1).take (Tryz.prog.cellsOf 9)) = ys[1]? at g1
      rw [hCS] at g1
      change DataW.trod enc Tryz.prog w base spare held n' 58 (([u0, u1, u2, u3, u4, u5].drop 2).take (Tryz.prog.cellsOf 58)) = ys[2]? at g2
      rw [hCW] at g2
      change DataW.trod enc Tryz.prog w base spare held n' 2 (([u0, u1, u2, u3, u4, u5].drop 4).take (Tryz.prog.cellsOf 2)) = ys[3]? at g3
      rw [hC6] at g3
      change DataW.trod enc Tryz.prog w base spare held n' 4 (([u0, u1, u2, u3, u4, u5].drop 5).take (Tryz.prog.cellsOf 4)) = ys[4]? at g4
      rw [hCB] at g4
      have ss : ∀ j, (hj : j < 5) → ys[j]? = some (ys[j]'(by omega)) := fun j hj => List.getElem?_eq_getElem (by omega)
      obtain ⟨a0, e0, _, j0⟩ := DataW.trod_int Tryz.underlying3 (g0.trans (ss 0 (by omega)))
      obtain ⟨a1, e1, q1, j1⟩ := DataW.trod_string Tryz.underlying9 (g1.trans (ss 1 (by omega)))
      obtain ⟨a3, e3, _, j3⟩ := DataW.trod_int Tryz.underlying2 (g3.trans (ss 3 (by omega)))
      obtain ⟨a4, e4, _⟩ := DataW.trod_bool Tryz.underlying4 (g4.trans (ss 4 (by omega)))
      obtain ⟨zs, n2, _, _, _, hzl, hf2⟩ := DataW.trod_struct Tryz.underlying58 (g2.trans (ss 2 (by omega)))
      have hzs : zs.length = 2 := hzl
      have k0 := hf2 0 _ rfl
      have k1 := hf2 1 _ rfl
      change DataW.trod enc Tryz.prog w base spare held n2 3 (([u2, u3].drop 0).take (Tryz.prog.cellsOf 3)) = zs[0]? at k0
      change DataW.trod enc Tryz.prog w base spare held n2 3 (([u2, u3].drop 1).take (Tryz.prog.cellsOf 3)) = zs[1]? at k1
      rw [hC3] at k0 k1
      obtain ⟨b0, e5, _, j5⟩ := DataW.trod_int Tryz.underlying3 (k0.trans (List.getElem?_eq_getElem (by omega)))
      obtain ⟨b1, e6, _, j6⟩ := DataW.trod_int Tryz.underlying3 (k1.trans (List.getElem?_eq_getElem (by omega)))
      simp only [List.drop_zero, List.drop_succ_cons, List.take_succ_cons, List.take_zero, List.cons.injEq, and_true] at e0 e1 e3 e4 e5 e6
      subst e0 e1 e3 e4 e5 e6
      exact ⟨⟨a0, a1.data.toList, b0, b1, a3, a4⟩, rfl, ⟨i64b j0, strOk_of j1, i64b j5, i64b j6, i64b j3⟩⟩) h
  exact ⟨s, l, h1, h2, h4, h5⟩
set_option maxRecDepth 100000 in
theorem open_usesT {v : Value} {x : DataW H × List MemPlace} (h : DataW.trod enc Tryz.prog w base spare held fuel 40 [v] = some x) : ∃ s l, v = .slice s.A s.n s.c ∧ SlU w s l ∧ (∀ y ∈ l, y.Ok) ∧ FewD s.n x.1 := by
  have hC3 : Tryz.prog.cellsOf 3 = 1 := by kernel_rfl
  have hC6 : Tryz.prog.cellsOf 2 = 1 := by kernel_rfl
  haveI : Inhabited UseV := ⟨UseV.zero⟩
  obtain ⟨s, l, h1, h2, h3, h4, h5⟩ := open_elems use3 UseV.Ok 3 Tryz.underlying40 (by kernel_rfl) (by omega) (fun _ => rfl) (fun cs y n hcl ht => by
    obtain ⟨ys, n', _, hy, hlen, hyl, hf⟩ := DataW.trod_struct Tryz.underlying64 ht
    match cs, hcl with
    | [u0, u1, u2], _ =>
      have hys : ys.length = 3 := hyl
      have g0 := hf 0 _ rfl
      have g1 := hf 1 _ rfl
      have g2 := hf 2 _ rfl
      change DataW.trod enc Tryz.prog w base spare held n' 3 (([u0, u1, u2].drop 0).take (Tryz.prog.cellsOf 3)) = ys[0]? at g0
      rw [hC3] at g0
      change DataW.trod enc Tryz.prog w base spare held n' 3 (([u0, u1, u2].drop 1).take (Tryz.prog.cellsOf 3)) = ys[1]? at g1
      rw [hC3] at g1
      change DataW.trod enc Tryz.prog w base spare held n' 2 (([u0, u1, u2].drop 2).take (Tryz.prog.cellsOf 2)) = ys[2]? at g2
      rw [hC6] at g2
      have ss : ∀ j, (hj : j < 3) → ys[j]? = some (ys[j]'(by omega)) := fun j hj => List.getElem?_eq_getElem (by omega)
      obtain ⟨a0, e0, _, j0⟩ := DataW.trod_int Tryz.underlying3 (g0.trans (ss 0 (by omega)))
      obtain ⟨a1, e1, _, j1⟩ := DataW.trod_int Tryz.underlying3 (g1.trans (ss 1 (by omega)))
      obtain ⟨a2, e2, _, j2⟩ := DataW.trod_int Tryz.underlying2 (g2.trans (ss 2 (by omega)))
      simp only [List.drop_zero, List.drop_succ_cons, List.take_succ_cons, List.take_zero, List.cons.injEq, and_true] at e0 e1 e2
      subst e0 e1 e2
      exact ⟨⟨a0, a1, a2⟩, rfl, ⟨i64b j0, i64b j1, i64b j2⟩⟩) h
  exact ⟨s, l, h1, h2, h4, h5⟩
/-- How much a command is. -/
def AskFew (a : AskV) : Prop := a.item.length ≤ 140737488355328 ∧ a.parts.length ≤ 140737488355328 ∧ a.others.length ≤ 140737488355328
def TellFew (t : TellV) : Prop := t.code.length ≤ 140737488355328 ∧ t.lots.length ≤ 140737488355328 ∧ t.uses.length ≤ 140737488355328
set_option maxRecDepth 100000 in
theorem open_askT {l : List Value} {x : DataW H × List MemPlace} (h : DataW.trod enc Tryz.prog w base spare held fuel 28 l = some x) (hz : ∀ m ∈ x.1.weights Tryz.prog 28, m ≤ reachBytes) : ∃ a S, l = (askC a S).toList ∧ AskIs w a S ∧ a.Ok ∧ AskFew a := by
  have hC : Tryz.prog.cellsOf 28 = 11 := by kernel_rfl
  have hCK : Tryz.prog.cellsOf 24 = 1 := by kernel_rfl
  have hC6 : Tryz.prog.cellsOf 2 = 1 := by kernel_rfl
  have hCS : Tryz.prog.cellsOf 9 = 1 := by kernel_rfl
  have hC3 : Tryz.prog.cellsOf 3 = 1 := by kernel_rfl
  have hCP : Tryz.prog.cellsOf 25 = 1 := by kernel_rfl
  have hCT : Tryz.prog.cellsOf 26 = 1 := by kernel_rfl
  obtain ⟨ys, n', _, hy, hlen, hyl, hf⟩ := DataW.trod_struct Tryz.underlying28 h
  rw [hC] at hlen
  match l, hlen with
  | [v0, v1, v2, v3, v4, v5, v6, v7, v8, v9, v10], _ =>
    have hys : ys.length = 11 := hyl
    have g0 := hf 0 _ rfl
    have g1 := hf 1 _ rfl
    have g2 := hf 2 _ rfl
    have g3 := hf 3 _ rfl
    have g4 := hf 4 _ rfl
    have g5 := hf 5 _ rfl
    have g6 := hf 6 _ rfl
    have g7 := hf 7 _ rfl
    have g8 := hf 8 _ rfl
    have g9 := hf 9 _ rfl
    have g10 := hf 10 _ rfl
    change DataW.trod enc Tryz.prog w base spare held n' 24 (([v0, v1, v2, v3, v4, v5, v6, v7, v8, v9, v10].drop 0).take (Tryz.prog.cellsOf 24)) = ys[0]? at g0
    rw [hCK] at g0
    change DataW.trod enc Tryz.prog w base spare held n' 2 (([v0, v1, v2, v3, v4, v5, v6, v7, v8, v9, v10].drop 1).take (Tryz.prog.cellsOf 2)) = ys[1]? at g1
    rw [hC6] at g1
    change DataW.trod enc Tryz.prog w base spare held n' 9 (([v0, v1, v2, v3, v4, v5, v6, v7, v8, v9, v10].drop 2).take (Tryz.prog.cellsOf 9)) = ys[2]? at g2
    rw [hCS] at g2
    change DataW.trod enc Tryz.prog w base spare held n' 2 (([v0, v1, v2, v3, v4, v5, v6, v7, v8, v9, v10].drop 3).take (Tryz.prog.cellsOf 2)) = ys[3]? at g3
    rw [hC6] at g3
    change DataW.trod enc Tryz.prog w base spare held n' 3 (([v0, v1, v2, v3, v4, v5, v6, v7, v8, v9, v10].drop 4).take (Tryz.prog.cellsOf 3)) = ys[4]? at g4
    rw [hC3] at g4
    change DataW.trod enc Tryz.prog w base spare held n' 3 (([v0, v1, v2, v3, v4, v5, v6, v7, v8, v9, v10].drop 5).take (Tryz.prog.cellsOf 3)) = ys[5]? at g5
    rw [hC3] at g5
    change DataW.trod enc Tryz.prog w base spare held n' 3 (([v0, v1, v2, v3, v4, v5, v6, v7, v8, v9, v10].drop 6).take (Tryz.prog.cellsOf 3)) = ys[6]? at g6
    rw [hC3] at g6
    change DataW.trod enc Tryz.prog w base spare held n' 3 (([v0, v1, v2, v3, v4, v5, v6, v7, v8, v9, v10].drop 7).take (Tryz.prog.cellsOf 3)) = ys[7]? at g7
    rw [hC3] at g7
    change DataW.trod enc Tryz.prog w base spare held n' 3 (([v0, v1, v2, v3, v4, v5, v6, v7, v8, v9, v10].drop 8).take (Tryz.prog.cellsOf 3)) = ys[8]? at g8
    rw [hC3] at g8
    change DataW.trod enc Tryz.prog w base spare held n' 25 (([v0, v1, v2, v3, v4, v5, v6, v7, v8, v9, v10].drop 9).take (Tryz.prog.cellsOf 25)) = ys[9]? at g9
    rw [hCP] at g9
    change DataW.trod enc Tryz.prog w base spare held n' 26 (([v0, v1, v2, v3, v4, v5, v6, v7, v8, v9, v10].drop 10).take (Tryz.prog.cellsOf 26)) = ys[10]? at g10
    rw [hCT] at g10
    have ss : ∀ j, (hj : j < 11) → ys[j]? = some (ys[j]'(by omega)) := fun j hj => List.getElem?_eq_getElem (by omega)
    obtain ⟨a0, e0, _, j0⟩ := DataW.trod_int Tryz.underlying24 (g0.trans (ss 0 (by omega)))
    obtain ⟨a1, e1, _, j1⟩ := DataW.trod_int Tryz.underlying2 (g1.trans (ss 1 (by omega)))
    obtain ⟨a2, e2, q2, j2⟩ := DataW.trod_string Tryz.underlying9 (g2.trans (ss 2 (by omega)))
    obtain ⟨a3, e3, _, j3⟩ := DataW.trod_int Tryz.underlying2 (g3.trans (ss 3 (by omega)))
    obtain ⟨a4, e4, _, j4⟩ := DataW.trod_int Tryz.underlying3 (g4.trans (ss 4 (by omega)))
    obtain ⟨a5, e5, _, j5⟩ := DataW.trod_int Tryz.underlying3 (g5.trans (ss 5 (by omega)))
    obtain ⟨a6, e6, _, j6⟩ := DataW.trod_int Tryz.underlying3 (g6.trans (ss 6 (by omega)))
    obtain ⟨a7, e7, _, j7⟩ := DataW.trod_int Tryz.underlying3 (g7.trans (ss 7 (by omega)))
    obtain ⟨a8, e8, _, j8⟩ := DataW.trod_int Tryz.underlying3 (g8.trans (ss 8 (by omega)))
    obtain ⟨sp, lp, e9, k9, ok9, w9⟩ := open_partsT (v := v9) (g9.trans (ss 9 (by omega)))
    obtain ⟨so, lo, e10, k10, ok10, w10⟩ := open_textsT (v := v10) (g10.trans (ss 10 (by omega)))
    have hx : x.1 = .agg (ys.map (·.1)) := by rw [hy]
    have f2 := weights_strD (congrArg Prod.fst q2) (weights_field hx Tryz.underlying28 hz 2 _ rfl _ (ss 2 (by omega)))
    have f9 := fewD_of (weights_field hx Tryz.underlying28 hz 9 _ rfl _ (ss 9 (by omega))) Tryz.underlying25 (of_decide_eq_true (by kernel_rfl)) w9
    have f10 := fewD_of (weights_field hx Tryz.underlying28 hz 10 _ rfl _ (ss 10 (by omega))) Tryz.underlying26 (of_decide_eq_true (by kernel_rfl)) w10
    replace e0 : v0 = _ := List.head_eq_of_cons_eq e0
    replace e1 : v1 = _ := List.head_eq_of_cons_eq e1
    replace e2 : v2 = _ := List.head_eq_of_cons_eq e2
    replace e3 : v3 = _ := List.head_eq_of_cons_eq e3
    replace e4 : v4 = _ := List.head_eq_of_cons_eq e4
    replace e5 : v5 = _ := List.head_eq_of_cons_eq e5
    replace e6 : v6 = _ := List.head_eq_of_cons_eq e6
    replace e7 : v7 = _ := List.head_eq_of_cons_eq e7
    replace e8 : v8 = _ := List.head_eq_of_cons_eq e8
    subst e0 e1 e2 e3 e4 e5 e6 e7 e8 e9 e10
    exact ⟨⟨a0, a1, a2.data.toList, a3, a4, a5, a6, a7, a8, lp, lo⟩, ⟨sp, so⟩, rfl, ⟨k9, k10⟩, ⟨u8_wf j0, i64b j1, strOk_of j2, i64b j3, i64b j4, i64b j5, i64b j6, i64b j7, i64b j8, ok9, ok10⟩, f2, by rw [show lp.length = sp.n from k9.len]; exact f9, by rw [show lo.length = so.n from k10.len]; exact f10⟩
set_option maxRecDepth 100000 in
theorem open_tellT {l : List Value} {x : DataW H × List MemPlace} (h : DataW.trod enc Tryz.prog w base spare held fuel 42 l = some x) (hz : ∀ m ∈ x.1.weights Tryz.prog 42, m ≤ reachBytes) : ∃ a S, l = (tellC a S).toList ∧ TellIs w a S ∧ a.Ok ∧ TellFew a := by
  have hC : Tryz.prog.cellsOf 42 = 7 := by kernel_rfl
  have hCE : Tryz.prog.cellsOf 32 = 1 := by kernel_rfl
  have hC3 : Tryz.prog.cellsOf 3 = 1 := by kernel_rfl
  have hCS : Tryz.prog.cellsOf 9 = 1 := by kernel_rfl
  have hCL : Tryz.prog.cellsOf 38 = 1 := by kernel_rfl
  have hCO : Tryz.prog.cellsOf 39 = 1 := by kernel_rfl
  have hCU : Tryz.prog.cellsOf 40 = 1 := by kernel_rfl
  obtain ⟨ys, n', _, hy, hlen, hyl, hf⟩ := DataW.trod_struct Tryz.underlying42 h
  rw [hC] at hlen
  match l, hlen with
  | [v0, v1, v2, v3, v4, v5, v6], _ =>
    have hys : ys.length = 7 := hyl
    have g0 := hf 0 _ rfl
    have g1 := hf 1 _ rfl
    have g2 := hf 2 _ rfl
    have g3 := hf 3 _ rfl
    have g4 := hf 4 _ rfl
    have g5 := hf 5 _ rfl
    have g6 := hf 6 _ rfl
    change DataW.trod enc Tryz.prog w base spare held n' 32 (([v0, v1, v2, v3, v4, v5, v6].drop 0).take (Tryz.prog.cellsOf 32)) = ys[0]? at g0
    rw [hCE] at g0
    change DataW.trod enc Tryz.prog w base spare held n' 3 (([v0, v1, v2, v3, v4, v5, v6].drop 1).take (Tryz.prog.cellsOf 3)) = ys[1]? at g1
    rw [hC3] at g1
    change DataW.trod enc Tryz.prog w base spare held n' 3 (([v0, v1, v2, v3, v4, v5, v6].drop 2).take (Tryz.prog.cellsOf 3)) = ys[2]? at g2
    rw [hC3] at g2
    change DataW.trod enc Tryz.prog w base spare held n' 9 (([v0, v1, v2, v3, v4, v5, v6].drop 3).take (Tryz.prog.cellsOf 9)) = ys[3]? at g3
    rw [hCS] at g3
    change DataW.trod enc Tryz.prog w base spare held n' 38 (([v0, v1, v2, v3, v4, v5, v6].drop 4).take (Tryz.prog.cellsOf 38)) = ys[4]? at g4
    rw [hCL] at g4
    change DataW.trod enc Tryz.prog w base spare held n' 39 (([v0, v1, v2, v3, v4, v5, v6].drop 5).take (Tryz.prog.cellsOf 39)) = ys[5]? at g5
    rw [hCO] at g5
    change DataW.trod enc Tryz.prog w base spare held n' 40 (([v0, v1, v2, v3, v4, v5, v6].drop 6).take (Tryz.prog.cellsOf 40)) = ys[6]? at g6
    rw [hCU] at g6
    have ss : ∀ j, (hj : j < 7) → ys[j]? = some (ys[j]'(by omega)) := fun j hj => List.getElem?_eq_getElem (by omega)
    obtain ⟨a0, e0, _, j0⟩ := DataW.trod_int Tryz.underlying32 (g0.trans (ss 0 (by omega)))
    obtain ⟨a1, e1, _, j1⟩ := DataW.trod_int Tryz.underlying3 (g1.trans (ss 1 (by omega)))
    obtain ⟨a2, e2, _, j2⟩ := DataW.trod_int Tryz.underlying3 (g2.trans (ss 2 (by omega)))
    obtain ⟨a3, e3, q3, j3⟩ := DataW.trod_string Tryz.underlying9 (g3.trans (ss 3 (by omega)))
    obtain ⟨a4, e4, _, j4⟩ := DataW.trod_int Tryz.underlying38 (g4.trans (ss 4 (by omega)))
    obtain ⟨sl, ll, e5, k5, ok5, w5⟩ := open_lotsT (v := v5) (g5.trans (ss 5 (by omega)))
    obtain ⟨su, lu, e6, k6, ok6, w6⟩ := open_usesT (v := v6) (g6.trans (ss 6 (by omega)))
    have hx : x.1 = .agg (ys.map (·.1)) := by rw [hy]
    have f3 := weights_strD (congrArg Prod.fst q3) (weights_field hx Tryz.underlying42 hz 3 _ rfl _ (ss 3 (by omega)))
    have f5 := fewD_of (weights_field hx Tryz.underlying42 hz 5 _ rfl _ (ss 5 (by omega))) Tryz.underlying39 (of_decide_eq_true (by kernel_rfl)) w5
    have f6 := fewD_of (weights_field hx Tryz.underlying42 hz 6 _ rfl _ (ss 6 (by omega))) Tryz.underlying40 (of_decide_eq_true (by kernel_rfl)) w6
    replace e0 : v0 = _ := List.head_eq_of_cons_eq e0
    replace e1 : v1 = _ := List.head_eq_of_cons_eq e1
    replace e2 : v2 = _ := List.head_eq_of_cons_eq e2
    replace e3 : v3 = _ := List.head_eq_of_cons_eq e3
    replace e4 : v4 = _ := List.head_eq_of_cons_eq e4
    subst e0 e1 e2 e3 e4 e5 e6
    exact ⟨⟨a0, a1, a2, a3.data.toList, a4, ll, lu⟩, ⟨sl, su⟩, rfl, ⟨k5, k6⟩, ⟨i64b j0, i64b j1, i64b j2, strOk_of j3, u8_wf j4, ok5, ok6⟩, f3, by rw [show ll.length = sl.n from SlL.len k5]; exact f5, by rw [show lu.length = su.n from SlU.len k6]; exact f6⟩
set_option maxRecDepth 100000 in
theorem open_taleT {cs : Array Value} {x : DataW H × List MemPlace} (h : DataW.trod enc Tryz.prog w base spare held fuel 44 cs.toList = some x) (hz : ∀ m ∈ x.1.weights Tryz.prog 44, m ≤ reachBytes) : ∃ t SA ST, cs = taleC t SA ST ∧ AskIs w t.ask SA ∧ TellIs w t.tell ST ∧ t.Ok ∧ AskFew t.ask ∧ TellFew t.tell := by
  have hC : Tryz.prog.cellsOf 44 = 21 := by kernel_rfl
  have hCA : Tryz.prog.cellsOf 37 = 1 := by kernel_rfl
  have hC3 : Tryz.prog.cellsOf 3 = 1 := by kernel_rfl
  have hC11 : Tryz.prog.cellsOf 28 = 11 := by kernel_rfl
  have hC7 : Tryz.prog.cellsOf 42 = 7 := by kernel_rfl
  obtain ⟨ys, n', _, hy, hlen, hyl, hf⟩ := DataW.trod_struct Tryz.underlying44 h
  rw [hC] at hlen
  obtain ⟨l⟩ := cs
  simp only at hlen hf h
  match l, hlen with
  | [v0, v1, v2, v3, v4, v5, v6, v7, v8, v9, v10, v11, v12, v13, v14, v15, v16, v17, v18, v19, v20], _ =>
    have hys : ys.length = 5 := hyl
    have g0 := hf 0 _ rfl
    have g1 := hf 1 _ rfl
    have g2 := hf 2 _ rfl
    have g3 := hf 3 _ rfl
    have g4 := hf 4 _ rfl
    change DataW.trod enc Tryz.prog w base spare held n' 37 (([v0, v1, v2, v3, v4, v5, v6, v7, v8, v9, v10, v11, v12, v13, v14, v15, v16, v17, v18, v19, v20].drop 0).take (Tryz.prog.cellsOf 37)) = ys[0]? at g0
    rw [hCA] at g0
    change DataW.trod enc Tryz.prog w base spare held n' 3 (([v0, v1, v2, v3, v4, v5, v6, v7, v8, v9, v10, v11, v12, v13, v14, v15, v16, v17, v18, v19, v20].drop 1).take (Tryz.prog.cellsOf 3)) = ys[1]? at g1
    rw [hC3] at g1
    change DataW.trod enc Tryz.prog w base spare held n' 3 (([v0, v1, v2, v3, v4, v5, v6, v7, v8, v9, v10, v11, v12, v13, v14, v15, v16, v17, v18, v19, v20].drop 2).take (Tryz.prog.cellsOf 3)) = ys[2]? at g2
    rw [hC3] at g2
    change DataW.trod enc Tryz.prog w base spare held n' 28 (([v0, v1, v2, v3, v4, v5, v6, v7, v8, v9, v10, v11, v12, v13, v14, v15, v16, v17, v18, v19, v20].drop 3).take (Tryz.prog.cellsOf 28)) = ys[3]? at g3
    rw [hC11] at g3
    change DataW.trod enc Tryz.prog w base spare held n' 42 (([v0, v1, v2, v3, v4, v5, v6, v7, v8, v9, v10, v11, v12, v13, v14, v15, v16, v17, v18, v19, v20].drop 14).take (Tryz.prog.cellsOf 42)) = ys[4]? at g4
    rw [hC7] at g4
    have ss : ∀ j, (hj : j < 5) → ys[j]? = some (ys[j]'(by omega)) := fun j hj => List.getElem?_eq_getElem (by omega)
    obtain ⟨a0, e0, _, j0⟩ := DataW.trod_int Tryz.underlying37 (g0.trans (ss 0 (by omega)))
    obtain ⟨a1, e1, _, j1⟩ := DataW.trod_int Tryz.underlying3 (g1.trans (ss 1 (by omega)))
    obtain ⟨a2, e2, _, j2⟩ := DataW.trod_int Tryz.underlying3 (g2.trans (ss 2 (by omega)))
    have hx : x.1 = .agg (ys.map (·.1)) := by rw [hy]
    obtain ⟨a, SA, ea, ka, oka, fa⟩ := open_askT (g3.trans (ss 3 (by omega))) (weights_field hx Tryz.underlying44 hz 3 _ rfl _ (ss 3 (by omega)))
    obtain ⟨b, ST, eb, kb, okb, fb⟩ := open_tellT (g4.trans (ss 4 (by omega))) (weights_field hx Tryz.underlying44 hz 4 _ rfl _ (ss 4 (by omega)))
    unfold askC at ea
    unfold tellC at eb
    simp only [List.drop_zero, List.drop_succ_cons, List.take_succ_cons, List.take_zero, List.take_nil, List.cons.injEq, and_true] at e0 e1 e2 ea eb
    obtain ⟨y0, y1, y2, y3, y4, y5, y6, y7, y8, y9, y10⟩ := ea
    obtain ⟨z0, z1, z2, z3, z4, z5, z6⟩ := eb
    subst e0 e1 e2 y0 y1 y2 y3 y4 y5 y6 y7 y8 y9 y10 z0 z1 z2 z3 z4 z5 z6
    exact ⟨⟨a0, a1, a2, a, b⟩, SA, ST, rfl, ka, kb, ⟨u8_wf j0, i64b j1, i64b j2, oka, okb⟩, fa, fb⟩
end
end Go.Proofs.YtglojnmcbochaaaGreatDoor

