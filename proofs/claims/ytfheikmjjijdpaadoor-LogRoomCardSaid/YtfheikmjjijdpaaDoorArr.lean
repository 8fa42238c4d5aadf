/-
  Arrays of 512 bytes as values and variables: alloc, store, load, look-up, at the operation of a walk and in the head of a region that draws its order. No condition: laws over any program.
-/
import Derived.Test.YtfheikmjjijdpaaDoorSec
import Derived.StillTailTactics
namespace Go.Proofs.YtfheikmjjijdpaaDoor
open Go.RowKit Go.Maps

/-- Type T is an array of 512 bytes. -/
structure SecT (P : Program) (T E : TypeId) : Prop where
  und : P.underlying T = some (.array 512 E)
  size : (P.info? T).map (·.size) = some 512
  zero : ∀ w, (zeroValue T).run P w = .ok (secV noughts) w

theorem u8s_size {zs : List Int} (h : zs.length = 512) : (u8s zs).toArray.size = 512 := by simp [u8s, h]

section
variable {P : Program} {w : World} {T E : TypeId} {ops : Array Oper} {rest : List Oper} {o : Oper} {a : Act} {Q : Exit → Act → World → Prop}

theorem wpList_sec_alloc (S : SecT P T E) (hg : o.guard = none) (hop : o.op = Op.alloc T)
    (hC : wpList P ops Q rest (a.put o.dst (.pointer (some ⟨w.heap.size, 0, none⟩))) (w.alloc (.cells (u8s noughts).toArray T))) : wpList P ops Q (o :: rest) a w := by
  refine wpList_plain hg fun K' hK' => ?_
  have hrun : (Instr.alloc T true (.tuple #[])).run P w = .ok (.pointer (some ⟨w.heap.size, 0, none⟩)) (w.alloc (.cells (u8s noughts).toArray T)) := by
    simp [Instr.alloc, S.zero, newVar, newRow, secV, Value.cells, Result.andThen]
  unfold Oper.wp
  simp only [execOp, hop, Sem.run_bind, hrun, Result.andThen, Sem.run_pure]
  exact hK' _ _ hC

theorem run_sec_store (S : SecT P T E) {g : Nat} {t : TypeId} {cs : Array Value} (h : Blk w g t cs) (hcs : cs.size = 512) {zs : List Int} (hz : zs.length = 512) :
    ∃ w', (Instr.storeAt T (.pointer (some ⟨g, 0, none⟩)) (secV zs)).run P w = .ok () w' ∧ Blk w' g t (u8s zs).toArray ∧ w.grownBy w' (some g) ∧ w'.heap.size = w.heap.size := by
  refine ⟨w.setRow g (u8s zs).toArray, ?_, setRow_heap w g cs _ t _ h, ⟨rfl, rfl, rfl, by simp, fun k _ hk => setRow_other w g k _ (fun e => hk (by rw [e]))⟩, by simp⟩
  simp only [Instr.storeAt, Instr.sureAddr, Sem.run_bind, Sem.run_pure, Result.andThen]
  exact run_storeVar_row w g t T cs _ h (by rw [S.size, u8s_size hz]) (by rw [hcs, u8s_size hz]) (by
    rw [Array.all_eq_true_iff_forall_mem]
    intro v hv
    exact u8s_one zs v (by simpa using hv))

theorem wpList_sec_storeAt (S : SecT P T E) (hg : o.guard = none) (x v : Operand) (hop : o.op = Op.store T x v) (g : Nat) (hx : a.eval x = .pointer (some ⟨g, 0, none⟩)) (t : TypeId) (cs : Array Value) (h : Blk w g t cs) (hcs : cs.size = 512)
    (zs : List Int) (hv : a.eval v = secV zs) (hz : zs.length = 512)
    (hC : ∀ w', Blk w' g t (u8s zs).toArray → w.grownBy w' (some g) → w'.heap.size = w.heap.size → wpList P ops Q rest (a.put o.dst undef) w') : wpList P ops Q (o :: rest) a w := by
  refine wpList_plain hg fun K' hK' => ?_
  obtain ⟨w', hrun, r1, r2, r3⟩ := run_sec_store S h hcs hz
  unfold Oper.wp
  simp only [execOp, hop, hx, hv, Sem.run_bind, hrun, Result.andThen, Sem.run_pure]
  exact hK' _ _ (hC w' r1 r2 r3)

theorem run_sec_load (S : SecT P T E) {g : Nat} {t : TypeId} {zs : List Int} (h : Blk w g t (u8s zs).toArray) (hz : zs.length = 512) : (Instr.loadAt T (.pointer (some ⟨g, 0, none⟩))).run P w = .ok (secV zs) w := by
  simp only [Instr.loadAt, Instr.sureAddr, Sem.run_bind, Sem.run_pure, Result.andThen]
  exact run_loadVar_row w g t T _ (0, 0) _ h S.und rfl (by rw [S.size, u8s_size hz])

theorem wpList_sec_load (S : SecT P T E) (hg : o.guard = none) (x : Operand) (hop : o.op = Op.load T x) (g : Nat) (hx : a.eval x = .pointer (some ⟨g, 0, none⟩)) (t : TypeId) (zs : List Int) (h : Blk w g t (u8s zs).toArray) (hz : zs.length = 512)
    (hC : wpList P ops Q rest (a.put o.dst (secV zs)) w) : wpList P ops Q (o :: rest) a w := by
  refine wpList_plain hg fun K' hK' => ?_
  have hrun := run_sec_load (P := P) S h hz
  unfold Oper.wp
  simp only [execOp, hop, hx, Sem.run_bind, hrun, Result.andThen, Sem.run_pure]
  exact hK' _ _ hC

/-- A part of a longer row of bytes, read as an array. -/
theorem run_sec_load_of (S : SecT P T E) {g : Nat} {t : TypeId} {cs : Array Value} {zs : List Int} (h : Blk w g t cs) (hz : zs.length = 512) (hcs : cs.toList.take 512 = u8s zs) : (Instr.loadAt T (.pointer (some ⟨g, 0, none⟩))).run P w = .ok (secV zs) w :=
  run_loadAt_mid w g 0 T (u8s zs) _ (fun j v hv => by
    rw [h.cell, Nat.zero_add]
    rw [← hcs, List.getElem?_take] at hv
    split at hv
    · simpa using hv
    · cases hv) S.und rfl (by rw [S.size, u8s_length, hz])

/-! in the head of a region that draws its order -/
theorem wpStill_value {Q' : Act → Prop} (hg : o.guard = none) (v : Value) (hrun : (execOp a.eval o).run P w = .ok (.value v) w) (hC : wpStill P ops w Q' rest (a.put o.dst v)) : wpStill P ops w Q' (o :: rest) a := by
  refine wpStill_step fun K hK => ?_
  simp only [Region.wanted, hg, if_true, Oper.still, hrun, Oper.stillUpon]
  exact ⟨trivial, hK _ hC⟩
theorem wpStill_sec_load (S : SecT P T E) {Q' : Act → Prop} (hg : o.guard = none) (x : Operand) (hop : o.op = Op.load T x) (g : Nat) (hx : a.eval x = .pointer (some ⟨g, 0, none⟩)) (t : TypeId) (zs : List Int) (h : Blk w g t (u8s zs).toArray) (hz : zs.length = 512)
    (hC : wpStill P ops w Q' rest (a.put o.dst (secV zs))) : wpStill P ops w Q' (o :: rest) a := by
  refine wpStill_value hg _ ?_ hC
  have hrun := run_sec_load (P := P) S h hz
  simp only [execOp, hop, hx, Sem.run_bind, hrun, Result.andThen, Sem.run_pure]
theorem wpStill_sec_load_of (S : SecT P T E) {Q' : Act → Prop} (hg : o.guard = none) (x : Operand) (hop : o.op = Op.load T x) (g : Nat) (hx : a.eval x = .pointer (some ⟨g, 0, none⟩)) (t : TypeId) (cs : Array Value) (zs : List Int) (h : Blk w g t cs) (hz : zs.length = 512) (hcs : cs.toList.take 512 = u8s zs)
    (hC : wpStill P ops w Q' rest (a.put o.dst (secV zs))) : wpStill P ops w Q' (o :: rest) a := by
  refine wpStill_value hg _ ?_ hC
  have hrun := run_sec_load_of (P := P) S h hz hcs
  simp only [execOp, hop, hx, Sem.run_bind, hrun, Result.andThen, Sem.run_pure]
theorem wpStill_sec_look {K M : TypeId} {b : Nat} {f : Int → Option (List Int)} (S : SecT P T E) {Q' : Act → Prop} (hg : o.guard = none) (m x : Operand) (hop : o.op = Op.lookup M m x true) (hK : P.underlying K = some (.int .i64)) (hM : P.underlying M = some (.map K T))
    (hm : a.eval m = .map (some b)) (h : MapIs P K w b f) (k : Int) (hx : a.eval x = .int .i64 k) (hk : (Lit.int .i64 k).wf = true) (r : Option (List Int)) (hr : f k = r)
    (hC : wpStill P ops w Q' rest (a.put o.dst (.tuple #[secV (r.getD noughts), .bool r.isSome]))) : wpStill P ops w Q' (o :: rest) a := by
  refine wpStill_value hg _ ?_ hC
  have hrun := h.look w hK hM (S.zero w) hk true
  rw [hr] at hrun
  simp only [execOp, hop, hm, hx, Sem.run_bind, hrun, Result.andThen, Sem.run_pure, if_true]

theorem wpList_sec_look_ok {K M : TypeId} {b : Nat} {f : Int → Option (List Int)} (S : SecT P T E) (hg : o.guard = none) (m x : Operand) (hop : o.op = Op.lookup M m x true) (hK : P.underlying K = some (.int .i64)) (hM : P.underlying M = some (.map K T))
    (hm : a.eval m = .map (some b)) (h : MapIs P K w b f) (k : Int) (hx : a.eval x = .int .i64 k) (hk : (Lit.int .i64 k).wf = true) (r : Option (List Int)) (hr : f k = r)
    (hC : wpList P ops Q rest (a.put o.dst (.tuple #[secV (r.getD noughts), .bool r.isSome])) w) : wpList P ops Q (o :: rest) a w := by
  refine wpList_plain hg fun K' hK' => ?_
  have hrun := h.look w hK hM (S.zero w) hk true
  rw [hr] at hrun
  unfold Oper.wp
  simp only [execOp, hop, hm, hx, Sem.run_bind, hrun, Result.andThen, Sem.run_pure, if_true]
  exact hK' _ _ hC
theorem wpList_sec_look {K M : TypeId} {b : Nat} {f : Int → Option (List Int)} (S : SecT P T E) (hg : o.guard = none) (m x : Operand) (hop : o.op = Op.lookup M m x false) (hK : P.underlying K = some (.int .i64)) (hM : P.underlying M = some (.map K T))
    (hm : a.eval m = .map (some b)) (h : MapIs P K w b f) (k : Int) (hx : a.eval x = .int .i64 k) (hk : (Lit.int .i64 k).wf = true) (r : List Int) (hr : (f k).getD noughts = r)
    (hC : wpList P ops Q rest (a.put o.dst (secV r)) w) : wpList P ops Q (o :: rest) a w := by
  refine wpList_plain hg fun K' hK' => ?_
  have hrun := h.look w hK hM (S.zero w) hk false
  rw [hr] at hrun
  unfold Oper.wp
  simp only [execOp, hop, hm, hx, Sem.run_bind, hrun, Result.andThen, Sem.run_pure]
  exact hK' _ _ hC
end

/-- n bytes zs at the head of block g, which has room for cap. -/
structure RowB (w : World) (U g n cap : Nat) (zs : List Int) : Prop where
  len : zs.length = n
  le : n ≤ cap
  max : cap ≤ maxLen
  row : ∃ cs, Blk w g U cs ∧ cs.size = cap ∧ cs.toList.take n = u8s zs

section
variable {w w' : World} {U g n cap : Nat} {zs : List Int}
theorem RowB.lt (h : RowB w U g n cap zs) : g < w.heap.size := let ⟨_, hb, _⟩ := h.row; hb.lt
theorem RowB.turned {W : Nat → Prop} (h : RowB w U g n cap zs) (ht : Turned W w w') (hg : ¬ W g) : RowB w' U g n cap zs :=
  let ⟨cs, hb, r⟩ := h.row; ⟨h.len, h.le, h.max, cs, hb.turned ht hg, r⟩
theorem RowB.own (h : RowB w U g n cap zs) {base : Nat} (hb : base ≤ g) : w.ownsRow base U 1 (.slice (some ⟨g, 0, none⟩) n cap) n (u8s zs) :=
  let ⟨cs, hb', hs, ht⟩ := h.row; ⟨by rw [u8s_length, h.len, Nat.mul_one], .inr ⟨g, cap, cs, rfl, hb, hb', h.le, h.max, by rw [hs, Nat.mul_one], by rw [Nat.mul_one]; exact ht⟩⟩
theorem RowB.of_own {base : Nat} (h : w.ownsRow base U 1 (.slice (some ⟨g, 0, none⟩) n cap) n (u8s zs)) : RowB w U g n cap zs := by
  obtain ⟨h1, h2⟩ := h
  rcases h2 with ⟨h2, _⟩ | ⟨g', cap', cs, hv, _, hb, hn, hc, hs, ht⟩
  · cases h2
  · injection hv with hv1 hv2 hv3
    injection hv1 with hv1
    injection hv1 with hv1
    subst hv1 hv3
    rw [Nat.mul_one] at hs ht
    exact ⟨by rw [u8s_length, Nat.mul_one] at h1; exact h1, hn, hc, cs, hb, hs, ht⟩
theorem RowB.cell (h : RowB w U g n cap zs) {i : Nat} (hi : i < n) : w.cell? ⟨g, i, none⟩ = some (.int .u8 (zs.getD i 0)) := by
  obtain ⟨cs, hb, hs, ht⟩ := h.row
  have hl := h.len
  rw [hb.cell]
  have h1 : (u8s zs)[i]? = some (.int .u8 (zs.getD i 0)) := by
    simp only [u8s, List.getElem?_map, List.getD_eq_getElem?_getD]
    rw [List.getElem?_eq_getElem (by omega)]
    rfl
  rw [← ht, List.getElem?_take, if_pos hi] at h1
  simpa using h1
theorem RowB.frozen (h : RowB w U g n cap zs) (i : Nat) : w.frozen? ⟨g, i, none⟩ = false := let ⟨_, hb, _⟩ := h.row; hb.frozen i
/-- A shorter part of it. -/
theorem RowB.cut (h : RowB w U g n cap zs) {k : Nat} (hk : k ≤ n) : RowB w U g k cap (zs.take k) := by
  obtain ⟨cs, hb, hs, ht⟩ := h.row
  have hl := h.len
  have hle := h.le
  refine ⟨by rw [List.length_take]; omega, by omega, h.max, cs, hb, hs, ?_⟩
  have : cs.toList.take k = (cs.toList.take n).take k := by rw [List.take_take, Nat.min_eq_left hk]
  rw [this, ht]
  simp [u8s]
end

/-- S is []byte, U byte. -/
structure BytT (P : Program) (S U : TypeId) : Prop where
  und : P.underlying S = some (.slice U)
  info : (P.info? U).map (fun i => (i.zero, i.size, i.bytes)) = some (some (.int .u8 0), 1, 1)

section
variable {P : Program} {w : World} {S U : TypeId} {ops : Array Oper} {rest : List Oper} {o : Oper} {a : Act} {Q : Exit → Act → World → Prop}
theorem wpList_slice_arr {T : TypeId} (A : SecT P T U) (hU : P.cellsOf U = 1) (hg : o.guard = none) (x : Operand) (hop : o.op = Op.slice T x none none none) (g : Nat) (hx : a.eval x = .pointer (some ⟨g, 0, none⟩))
    (hC : wpList P ops Q rest (a.put o.dst (.slice (some ⟨g, 0, none⟩) 512 512)) w) : wpList P ops Q (o :: rest) a w := by
  refine wpList_plain hg fun K' hK' => ?_
  have hrun : (Instr.sliceAt T (.pointer (some ⟨g, 0, none⟩)) none none none).run P w = .ok (.slice (some ⟨g, 0, none⟩) 512 512) w := by
    have h0 : (⟨g, 0, none⟩ : Addr).add 0 = ⟨g, 0, none⟩ := rfl
    have hs : ∃ s, (sizeOf U).run P w = .ok s w := by
      unfold Program.cellsOf at hU
      cases hq : P.info? U with
      | none => simp [hq] at hU
      | some i => exact ⟨i.size, by simp [sizeOf, typeInfo, hq]⟩
    obtain ⟨s, hs⟩ := hs
    simp only [Instr.sliceAt, Sem.run_bind, run_underlying A.und, Result.andThen, Instr.sureAddr, Sem.run_pure, Instr.sliceBounds, hs, Nat.zero_mul, h0]
    simp
  unfold Oper.wp
  simp only [execOp, hop, hx, Sem.run_bind, Option.map_none, hrun, Result.andThen, Sem.run_pure]
  exact hK' _ _ hC
theorem wpList_bytes_none (B : BytT P S U) (hg : o.guard = none) (hop : o.op = Op.buildSlice S 0 #[])
    (hC : wpList P ops Q rest (a.put o.dst (.slice (some ⟨w.heap.size, 0, none⟩) 0 0)) (w.alloc (.cells #[] U))) : wpList P ops Q (o :: rest) a w := by
  refine wpList_plain hg fun K' hK' => ?_
  have hrun : (Instr.buildSlice S 0 #[]).run P w = .ok (.slice (some ⟨w.heap.size, 0, none⟩) 0 0) (w.alloc (.cells #[] U)) := by
    obtain ⟨i, hi, hz0, hz1, hz2⟩ := info_parts B.info
    simp [Instr.buildSlice, run_underlying B.und, sizeOf, typeInfo, hi, Instr.fill, newRow, Result.andThen]
    have : ∀ f : Nat → Value, Array.map f (Array.range 0) = #[] := fun f => by simp [Array.range]
    rw [this]
  unfold Oper.wp
  simp only [execOp, hop, Sem.run_bind, List.map_toArray, List.map_nil, hrun, Result.andThen, Sem.run_pure]
  exact hK' _ _ hC
theorem own_none (w : World) {base : Nat} (h : base ≤ w.heap.size) (U : TypeId) : (w.alloc (.cells #[] U)).ownsRow base U 1 (.slice (some ⟨w.heap.size, 0, none⟩) 0 0) 0 (u8s []) :=
  World.ownsRow_made w #[] 0 h (by simp) rfl
theorem wpList_bytes_append (B : BytT P S U) (hg : o.guard = none) (s x : Operand) (hop : o.op = .call { callee := .builtin .append, args := #[s, x], argTypes := #[S, S] })
    (v : Value) (base n : Nat) (xs zs : List Int) (hs : a.eval s = v) (hown : w.ownsRow base U 1 v n (u8s xs)) (ad : Addr) (m c : Nat) (hx : a.eval x = .slice (some ad) m c) (hl : zs.length = m)
    (hnews : ∀ j u, (u8s zs)[j]? = some u → w.cell? (ad.add j) = some u) (hm : 0 < m) (hb : n + m ≤ 140737488355328) (hbase : base ≤ w.heap.size)
    (hC : ∀ g cap w', RowB w' U g (n + m) cap (xs ++ zs) → w.grownBy w' v.ownBlock → (v.ownBlock = some g ∨ g = w.heap.size) → g < w'.heap.size → wpList P ops Q rest (a.put o.dst (.slice (some ⟨g, 0, none⟩) (n + m) cap)) w') : wpList P ops Q (o :: rest) a w := by
  obtain ⟨i, hi, hz0, hz1, hz2⟩ := info_parts B.info
  refine wpList_append_lies _ hg s x S hop base U i (.int .u8 0) 1 1 B.und hi hz0 hz1 hz2 rfl (by omega) v n (u8s xs) hs hown ad m c (u8s zs) hx (by rw [u8s_length, hl, Nat.mul_one]) hnews (u8s_one zs) hm (by simp only [maxLen]; omega) (by omega) hbase _ rfl ?_
  intro g cap w' h1 h2 h3 h4
  refine hC g cap w' (RowB.of_own (base := base) ?_) h2 h3 h4
  have : u8s (xs ++ zs) = u8s xs ++ u8s zs := by simp [u8s]
  rw [this]; exact h1
theorem news_of_row {g n cap : Nat} {zs : List Int} (h : RowB w U g n cap zs) : ∀ j u, (u8s zs)[j]? = some u → w.cell? ((⟨g, 0, none⟩ : Addr).add j) = some u := by
  intro j u hu
  have hj : j < n := by
    have := (List.getElem?_eq_some_iff.1 hu).1
    rw [u8s_length, h.len] at this
    exact this
  rw [Addr.add_mid, Nat.zero_add, h.cell hj, ← hu]
  have := h.len
  simp only [u8s, List.getElem?_map, List.getD_eq_getElem?_getD]
  rw [List.getElem?_eq_getElem (by omega)]
  rfl
theorem news_of_sec {g : Nat} {T : TypeId} {zs : List Int} (h : Blk w g T (u8s zs).toArray) : ∀ j u, (u8s zs)[j]? = some u → w.cell? ((⟨g, 0, none⟩ : Addr).add j) = some u := by
  intro j u hu
  rw [Addr.add_mid, Nat.zero_add, h.cell]
  simpa using hu
end
end Go.Proofs.YtfheikmjjijdpaaDoor
