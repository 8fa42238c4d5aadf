/-
  Bytes that can be appended to; append of so many noughts. No condition: laws over any program. (Cut from MrkA.)
-/
import Derived.Test.YtfheikmjjijdpaaDoorOwn
import Derived.Lib.AppendZerosOnto
namespace Go.Proofs.YtfheikmjjijdpaaDoor
open Go.RowKit Go.Maps

theorem zeroCells_u8 (k : Nat) : (Builtin.zeroCells (Value.int .u8 0).cells k).toList = u8s (List.replicate k 0) := by
  unfold Builtin.zeroCells u8s
  apply List.ext_getElem
  · simp [Value.cells]
  · intro i h1 h2
    simp [Value.cells, Nat.mod_one]
theorem own_some {w : World} {base size n : Nat} {e : TypeId} {v : Value} {xs : List Value} (h : w.ownsRow base e size v n xs) (hn : 0 < n) : ∃ g cap, v = .slice (some ⟨g, 0, none⟩) n cap := by
  obtain ⟨_, h2⟩ := h
  rcases h2 with ⟨_, h0⟩ | ⟨g, cap, cur, hv, _⟩
  · omega
  · exact ⟨g, cap, hv⟩

/-- n bytes at the head of block g that can be appended to: where there is room, the row is owned. -/
structure AppB (w : World) (U g n cap : Nat) (xs : List Int) : Prop where
  len : xs.length = n
  le : n ≤ cap
  max : cap ≤ maxLen
  lt : g < w.heap.size
  cell : ∀ j, j < n → w.cell? ⟨g, j, none⟩ = some (.int .u8 (xs.getD j 0))
  own : n < cap → RowB w U g n cap xs
section
variable {P : Program} {w w' : World} {S U g n cap : Nat} {xs : List Int}
theorem RowB.app (h : RowB w U g n cap xs) : AppB w U g n cap xs := ⟨h.len, h.le, h.max, h.lt, fun _ hj => h.cell hj, fun _ => h⟩
theorem AppB.turned {W : Nat → Prop} (h : AppB w U g n cap xs) (ht : Turned W w w') (hg : ¬ W g) : AppB w' U g n cap xs :=
  ⟨h.len, h.le, h.max, Nat.lt_of_lt_of_le h.lt ht.size, fun j hj => cell_turned ht (h.cell j hj) hg, fun hc => (h.own hc).turned ht hg⟩
theorem AppB.bytR (h : AppB w U g n cap xs) : BytR w (some ⟨g, 0, none⟩) n xs :=
  ⟨h.len, by have := h.le; have := h.max; unfold maxLen at this; omega, fun _ => ⟨g, 0, rfl, fun j hj => by rw [Nat.zero_add]; exact h.cell j hj⟩⟩
theorem AppB.news (h : AppB w U g n cap xs) : ∀ j u, (u8s xs)[j]? = some u → w.cell? ((⟨g, 0, none⟩ : Addr).add j) = some u := by
  intro j u hu
  have hj : j < n := by
    have := (List.getElem?_eq_some_iff.1 hu).1
    rw [u8s_length, h.len] at this
    exact this
  rw [Addr.add_mid, Nat.zero_add, h.cell j hj, ← hu]
  have := h.len
  simp only [u8s, List.getElem?_map, List.getD_eq_getElem?_getD]
  rw [List.getElem?_eq_getElem (by omega)]
  rfl
theorem AppB.const (w : World) (xs : List Int) (U : Nat) (hl : xs.length ≤ 1000) : AppB (w.alloc (.cells (u8s xs).toArray U (xs.length, xs.length + 1))) U w.heap.size xs.length xs.length xs := by
  refine ⟨rfl, Nat.le_refl _, by unfold maxLen; omega, by simp, fun j hj => ?_, fun h => absurd h (by omega)⟩
  rw [cell_of_row _ _ j (u8s xs).toArray U (xs.length, xs.length + 1) (heap_alloc_new w _)]
  simp [u8s, List.getD_eq_getElem?_getD, hj]
/-- Bytes appended. -/
theorem run_app (B : BytT P S U) {ty : TypeId} (h : AppB w U g n cap xs) (ad : Addr) (m c : Nat) (zs : List Int) (hl : zs.length = m) (hnews : ∀ j u, (u8s zs)[j]? = some u → w.cell? (ad.add j) = some u) (hm : 0 < m) (hb : n + m ≤ 140737488355328) :
    ∃ g' cap' w', (Builtin.append_ #[S, S] ty #[.slice (some ⟨g, 0, none⟩) n cap, .slice (some ad) m c]).run P w = .ok (.slice (some ⟨g', 0, none⟩) (n + m) cap') w' ∧ RowB w' U g' (n + m) cap' (xs ++ zs) ∧ w.grownBy w' (some g) ∧ (g' = g ∨ g' = w.heap.size) := by
  obtain ⟨i, hi, hz0, hz1, hz2⟩ := info_parts B.info
  have hu : u8s (xs ++ zs) = u8s xs ++ u8s zs := by simp [u8s]
  by_cases hc : n < cap
  · obtain ⟨v', w', hr, h2, h3, _, h5⟩ := run_append_own_at (P := P) w 0 S ty U i (.int .u8 0) 1 1 B.und hi hz0 hz1 hz2 rfl (by omega) _ n (u8s xs) ((h.own hc).own (Nat.zero_le _)) ad m c (u8s zs) (by rw [u8s_length, hl, Nat.mul_one]) hnews (u8s_one zs) (by simp only [maxLen]; omega) (by omega) (Nat.zero_le _)
    obtain ⟨g', cap', rfl⟩ := own_some h2 (by omega)
    refine ⟨g', cap', w', hr, RowB.of_own (base := 0) (by rw [hu]; exact h2), by simpa [Value.ownBlock] using h3, ?_⟩
    rcases h5 with e | e
    · exact .inl (by simpa [Value.ownBlock] using e)
    · exact .inr (by simpa [Value.ownBlock] using e)
  · have hle := h.le
    have hxl := h.len
    have hr := run_append_grow (P := P) w S ty U i (.int .u8 0) B.und hi hz0 ⟨g, 0, none⟩ n cap (u8s xs) (by rw [u8s_length, h.len, hz1, Nat.mul_one]) h.news ad m c (u8s zs) (by rw [u8s_length, hl, hz1, Nat.mul_one]) hnews (by omega) (by omega) (by rw [hz2]; exact growslice_fits (by omega) (by omega))
    have hge := grownCap_ge w (n + m) cap U
    have hcm : grownCap w (n + m) cap U ≤ maxLen := grownCap_le_maxLen w (n + m) cap U (by unfold maxLen; omega)
    refine ⟨_, _, _, hr, ⟨by rw [List.length_append, hxl, hl], hge, hcm, _, heap_alloc_new w.drew _, ?_, ?_⟩, ⟨rfl, rfl, rfl, by simp, fun j hj _ => Below.heap_alloc w.drew _ j hj⟩, .inr rfl⟩
    · simp only [Array.size_append, List.size_toArray, size_zeroCells, u8s_length, hxl, hl, Value.cells]
      simp
      omega
    · simp only [Array.toList_append]
      rw [hu, List.take_left' (by simp [u8s, hxl, hl])]
theorem wpList_app {ops : Array Oper} {rest : List Oper} {o : Oper} {a : Act} {Q : Exit → Act → World → Prop} (B : BytT P S U) (hgd : o.guard = none) (s x : Operand) (ho : o.op = .call { callee := .builtin .append, args := #[s, x], argTypes := #[S, S] })
    (h : AppB w U g n cap xs) (ad : Addr) (m c : Nat) (zs : List Int) (hl : zs.length = m) (hnews : ∀ j u, (u8s zs)[j]? = some u → w.cell? (ad.add j) = some u) (hm : 0 < m) (hb : n + m ≤ 140737488355328) (hs : a.eval s = .slice (some ⟨g, 0, none⟩) n cap) (hx : a.eval x = .slice (some ad) m c)
    (hC : ∀ g' cap' w', RowB w' U g' (n + m) cap' (xs ++ zs) → w.grownBy w' (some g) → (g' = g ∨ g' = w.heap.size) → wpList P ops Q rest (a.put o.dst (.slice (some ⟨g', 0, none⟩) (n + m) cap')) w') : wpList P ops Q (o :: rest) a w := by
  obtain ⟨g', cap', w', hrun, h1, h2, h3⟩ := run_app (ty := o.type) B h ad m c zs hl hnews hm hb
  exact Lib.wpList_append_run w hgd s x S S ho _ _ hs hx _ _ hrun (hC g' cap' w' h1 h2 h3)
end

theorem run_bytes_zeros {P : Program} {w : World} {S U tn ty : TypeId} {kn : IntKind} (B : BytT P S U) (htn : P.underlying tn = some (.int kn)) {g n cap : Nat} {xs : List Int} (hr : AppB w U g n cap xs) (k : Nat) (h0 : 0 < k) (hb : n + k ≤ 140737488355328) :
    ∃ g' cap' w', (Builtin.append_ #[S, tn] ty #[.slice (some ⟨g, 0, none⟩) n cap, .int .i64 k]).run P w = .ok (.slice (some ⟨g', 0, none⟩) (n + k) cap') w' ∧ RowB w' U g' (n + k) cap' (xs ++ List.replicate k 0) ∧ w.grownBy w' (some g) ∧ (g' = g ∨ g' = w.heap.size) := by
  obtain ⟨i, hi, hz0, hz1, hz2⟩ := info_parts B.info
  have hl := hr.len
  have hle := hr.le
  have hmx := hr.max
  have hlen : (xs ++ List.replicate k (0 : Int)).length = n + k := by simp [hl]
  have hu : u8s (xs ++ List.replicate k 0) = u8s xs ++ u8s (List.replicate k 0) := by simp [u8s]
  by_cases hroom : n + k ≤ cap
  · obtain ⟨cs, hbk, hcs, htk⟩ := (hr.own (by omega)).row
    have hst := run_storeCells_at P g n U (u8s (List.replicate k 0)) 0 cs w hbk (by simp [u8s, hcs]; omega) (u8s_one _)
    simp only [Nat.add_zero] at hst
    have hneg : ¬ ((k : Int) < 0) := by omega
    have hw : IntKind.i64.wrap (k : Int) = k := by rw [IntKind.wrap_i64]; omega
    have h48i : ¬ (281474976710656 < (k : Int)) := by omega
    have hk0 : ¬ k = 0 := by omega
    generalize hcc : (cs.toList.take n ++ u8s (List.replicate k 0) ++ cs.toList.drop (n + (u8s (List.replicate k 0)).length)).toArray = cc at hst
    refine ⟨g, cap, w.setRow g cc, ?_, ⟨hlen, hroom, hmx, cc, setRow_heap w g cs cc U (0, 0) hbk, ?_, ?_⟩, ⟨rfl, rfl, rfl, by simp, fun j _ hj => setRow_other w g j _ (fun e => hj (by rw [e]))⟩, .inl rfl⟩
    · simp [Builtin.append_, run_underlying B.und, run_underlying htn, sizeOf, typeInfo, zeroValue, hi, hz0, hz1, hz2, asInt, asIntOf, hw, hneg, h48i, hk0, hroom, zeroCells_u8, Addr.add_lit, hst]
    · rw [← hcc]; simp [u8s, hcs]; omega
    · rw [← hcc, htk, hu]
      exact List.take_left' (by simp [u8s, hl])
  · have hold : (Builtin.firstCells i.size n (.slice (some ⟨g, 0, none⟩) n cap)).run P w.drew = .ok (u8s xs).toArray w.drew := by
      have := run_firstCells_some (P := P) w.drew i.size n ⟨g, 0, none⟩ n cap (u8s xs) (by rw [u8s_length, hl, hz1, Nat.mul_one]) (hr.turned (Turned.refl (fun _ => False) w).drew (fun e => e)).news
      exact this
    have hrun := Lib.run_append_grow_zeros (P := P) w S tn ty U i (.int .u8 0) .i64 kn B.und htn hi hz0 (some ⟨g, 0, none⟩) n cap (u8s xs) hold k h0 (by omega) (by omega) (by omega) (by rw [hz2]; omega) (by rw [hz2]; exact growslice_fits (by omega) (by omega))
    have hge := grownCap_ge w (n + k) cap U
    have hcm : grownCap w (n + k) cap U ≤ maxLen := grownCap_le_maxLen w (n + k) cap U (by unfold maxLen; omega)
    refine ⟨_, _, _, hrun, ⟨hlen, hge, hcm, _, heap_alloc_new w.drew _, ?_, ?_⟩, ⟨rfl, rfl, rfl, by simp, fun j hj _ => Below.heap_alloc w.drew _ j hj⟩, .inr rfl⟩
    · simp only [Array.size_append, List.size_toArray, size_zeroCells, u8s_length, hl, Value.cells]
      simp
      omega
    · simp only [Array.toList_append, zeroCells_u8]
      rw [hu, List.take_left' (by simp [u8s, hl])]
theorem wpList_bytes_zeros {P : Program} {w : World} {S U tn : TypeId} {kn : IntKind} {ops : Array Oper} {rest : List Oper} {o : Oper} {a : Act} {Q : Exit → Act → World → Prop} (B : BytT P S U) (htn : P.underlying tn = some (.int kn)) (hgd : o.guard = none) (s x : Operand)
    (ho : o.op = .call { callee := .builtin .append, args := #[s, x], argTypes := #[S, tn] }) {g n cap : Nat} {xs : List Int} (hr : AppB w U g n cap xs) (k : Nat) (h0 : 0 < k) (hb : n + k ≤ 140737488355328) (hs : a.eval s = .slice (some ⟨g, 0, none⟩) n cap) (hx : a.eval x = .int .i64 k)
    (h : ∀ g' cap' w', RowB w' U g' (n + k) cap' (xs ++ List.replicate k 0) → w.grownBy w' (some g) → (g' = g ∨ g' = w.heap.size) → wpList P ops Q rest (a.put o.dst (.slice (some ⟨g', 0, none⟩) (n + k) cap')) w') : wpList P ops Q (o :: rest) a w := by
  obtain ⟨g', cap', w', hrun, h1, h2, h3⟩ := run_bytes_zeros (ty := o.type) B htn hr k h0 hb
  exact Lib.wpList_append_run w hgd s x S tn ho _ _ hs hx _ _ hrun (h g' cap' w' h1 h2 h3)
end Go.Proofs.YtfheikmjjijdpaaDoor
