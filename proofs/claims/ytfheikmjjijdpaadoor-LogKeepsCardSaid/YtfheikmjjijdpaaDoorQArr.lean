/-
  ytfheikmjjijdpaadoor: laws and walks on the road to LogKeeps, joined: DskA Arr. Conditions stand at each theorem.
-/
import Derived.Test.YtfheikmjjijdpaaDoorProg
import Derived.Test.YtfheikmjjijdpaaDoorQSec
import Derived.StillTailTactics
namespace Go.Proofs.YtfheikmjjijdpaaDoor
open Go.RowKit Go.Maps

/-- What a disk is: sectors, the latest and the safe bytes of each, which are open, for which it is armed, whether it is down. -/
structure DA where
  n : Int
  lat : Int → List Int
  saf : Int → List Int
  opn : Int → Bool
  armed : Int
  down : Bool

def dskCells (n : Int) (s o : Nat) (armed : Int) (down : Bool) : Array Value := #[.int .i64 n, .map (some s), .map (some o), .int .i64 armed, .bool down]
def RetSame (v : Value) (w : World) (e : Ending) (w' : World) : Prop := e = .returned v ∧ w = w'

theorem crash_idle (d s o : Nat) (n a : Int) (dn : Bool) (w : World) (h : Blk w d 79 (dskCells n s o a dn)) (ha : a = 0) :
    Calls Tryd.prog 65 #[.pointer (some ⟨d, 0, none⟩)] w (RetSame (.bool dn) w) := by
  subst ha
  have hc := h.cell
  have hf := h.frozen
  unfold dskCells at hc
  go_enter Tryd.func65, Tryd.ntmps65
  go_wp2
  go_ret
  exact ⟨rfl, rfl⟩

def Post1 (d s o : Nat) (n a : Int) (dn : Bool) (v : Value) (w : World) (e : Ending) (w' : World) : Prop := e = .returned v ∧ Blk w' d 79 (dskCells n s o a dn) ∧ Turned (· = d) w w'

theorem crash_armed (d s o : Nat) (n a : Int) (dn : Bool) (w : World) (h : Blk w d 79 (dskCells n s o a dn)) (ha : 0 < a) (ha2 : a ≤ 9223372036854775807) :
    Calls Tryd.prog 65 #[.pointer (some ⟨d, 0, none⟩)] w (Post1 d s o n (a - 1) (a - 1 == 0) (.bool (a - 1 == 0)) w) := by
  have hc := h.cell
  have hf := h.frozen
  unfold dskCells at hc
  go_enter Tryd.func65, Tryd.ntmps65
  go_wp2
  go_ret
  exact ⟨rfl, (h.set_ 3 _).set_ 4 _, ((Turned.refl (· = d) _).setCell (.inl rfl) _).setCell (.inl rfl) _⟩

section
variable (d : Nat) (n k : Int) (w : World) (hn : w.cell? ⟨d, 0, none⟩ = some (.int .i64 n))
include hn
theorem may_ok (h1 : 1 ≤ n) (hd : w.cell? ⟨d, 4, none⟩ = some (.bool false)) (hk0 : 0 ≤ k) (hk : k < n) : Calls Tryd.prog 52 #[.pointer (some ⟨d, 0, none⟩), .int .i64 k] w (RetSame (.int .i64 0) w) := by
  go_enter Tryd.func52, Tryd.ntmps52
  go_wp2
  go_ret
  exact ⟨rfl, rfl⟩
end

/-- The disk at d, its maps at s and o, is A. -/
structure IsDisk (w : World) (d s o : Nat) (A : DA) : Prop where
  blk : Blk w d 79 (dskCells A.n s o A.armed A.down)
  ne : s ≠ o
  n1 : 1 ≤ A.n
  n2 : A.n ≤ 8192
  a1 : 0 ≤ A.armed
  a2 : A.armed ≤ 9223372036854775807
  maps : ∃ vs vo, MapIs Tryd.prog 3 w s vs ∧ MapIs Tryd.prog 3 w o vo ∧ (∀ k, vs k ≠ none → 0 ≤ k ∧ k < A.n) ∧ (∀ k, vo k ≠ none → 0 ≤ k ∧ k < A.n) ∧
    (∀ k, A.saf k = (vs k).getD noughts) ∧ (∀ k, A.opn k = (vo k).isSome) ∧ (∀ k, A.lat k = (vo k).getD (A.saf k)) ∧ (∀ k, Sec (A.saf k)) ∧ (∀ k, Sec (A.lat k))

def dskW (d s o : Nat) (k : Nat) : Prop := k = d ∨ k = s ∨ k = o
theorem IsDisk.turned {w w' : World} {d s o : Nat} {A : DA} {W : Nat → Prop} (h : IsDisk w d s o A) (ht : Turned W w w') (hd : ∀ k, dskW d s o k → ¬ W k) : IsDisk w' d s o A := by
  obtain ⟨vs, vo, m1, m2, r⟩ := h.maps
  exact ⟨h.blk.turned ht (hd _ (.inl rfl)), h.ne, h.n1, h.n2, h.a1, h.a2, vs, vo, m1.turned ht (hd _ (.inr (.inl rfl))), m2.turned ht (hd _ (.inr (.inr rfl))), r⟩
theorem IsDisk.lt {w : World} {d s o : Nat} {A : DA} (h : IsDisk w d s o A) {k : Nat} (hk : dskW d s o k) : k < w.heap.size := by
  obtain ⟨vs, vo, m1, m2, _⟩ := h.maps
  rcases hk with rfl | rfl | rfl
  · exact h.blk.lt
  · exact m1.lt
  · exact m2.lt
theorem IsDisk.fresh {w w' : World} {d s o : Nat} {A : DA} (h : IsDisk w d s o A) (ht : Turned (fun _ => False) w w') : IsDisk w' d s o A := h.turned ht (fun _ _ e => e)

theorem sectors_any (d : Nat) (n : Int) (w : World) (hn : w.cell? ⟨d, 0, none⟩ = some (.int .i64 n)) : Calls Tryd.prog 27 #[.pointer (some ⟨d, 0, none⟩)] w (RetSame (.int .i64 n) w) := by
  go_enter Tryd.func27, Tryd.ntmps27
  go_wp2
  go_ret
  exact ⟨rfl, rfl⟩

def nonneg (n : Int) : Int := if 0 ≤ n then n else 0
theorem arm_up (d s o : Nat) (N a n : Int) (w : World) (h : Blk w d 79 (dskCells N s o a false)) :
    Calls Tryd.prog 20 #[.pointer (some ⟨d, 0, none⟩), .int .i64 n] w (Post1 d s o N (nonneg n) false (.tuple #[]) w) := by
  have hc := h.cell
  have hf := h.frozen
  unfold dskCells at hc
  by_cases hn : 0 ≤ n
  · go_enter Tryd.func20, Tryd.ntmps20
    go_wp2
    go_end0
    exact ⟨rfl, by rw [nonneg, if_pos hn]; exact h.set_ 3 _, (Turned.refl (· = d) _).setCell (.inl rfl) _⟩
  · go_enter Tryd.func20, Tryd.ntmps20
    go_wp2
    go_end0
    exact ⟨rfl, by rw [nonneg, if_neg (by omega)]; exact h.set_ 3 _, (Turned.refl (· = d) _).setCell (.inl rfl) _⟩
def DA.new (n : Int) : DA := ⟨n, fun _ => noughts, fun _ => noughts, fun _ => false, 0, false⟩
def NewPost (n : Int) (w : World) (e : Ending) (w' : World) : Prop := ∃ d s o, e = .returned (.pointer (some ⟨d, 0, none⟩)) ∧ IsDisk w' d s o (DA.new n) ∧ Turned (fun _ => False) w w' ∧ (∀ k, dskW d s o k → w.heap.size ≤ k) ∧ (∀ k, k < w'.heap.size → k < w.heap.size ∨ dskW d s o k)
theorem new_yes (n : Int) (w : World) (h1 : 1 ≤ n) (h2 : n ≤ 8192) : Calls Tryd.prog 7 #[.int .i64 n] w (NewPost n w) := by
  have hmm := @run_makeMap Tryd.prog
  go_enter Tryd.func7, Tryd.ntmps7
  go_wp2
  go_ret
  refine ⟨w.heap.size + 2, w.heap.size, w.heap.size + 1, rfl, ⟨?_, by omega, h1, h2, by simp [DA.new], by simp [DA.new], ?_⟩, ?_, ?_, ?_⟩
  · exact Blk.new_at _ _ _ (by simp)
  · refine ⟨fun _ => none, fun _ => none, (((MapIs.made w _ _).alloc _).alloc _), (MapIs.made_at _ _ _ (by simp)).alloc _, by simp, by simp, fun _ => rfl, fun _ => rfl, fun _ => rfl, fun _ => sec_noughts, fun _ => sec_noughts⟩
  · exact (((Turned.refl (fun _ => False) w).alloc _).alloc _).alloc _
  · rintro k (rfl | rfl | rfl) <;> omega
  · intro k hk
    simp at hk
    unfold dskW
    omega
end Go.Proofs.YtfheikmjjijdpaaDoor

namespace Go.Proofs.YtfheikmjjijdpaaDoor
open Go.RowKit Go.Maps

/-- Type T is an array of 512 bytes. -/
structure SecT (P : Program) (T E : TypeId) : Prop where
  und : P.underlying T = some (.array 512 E)
  size : (P.info? T).map (·.size) = some 512
  zero : ∀ w, (zeroValue T).run P w = .ok (secV noughts) w

theorem u8s_size {zs : List Int} (h : zs.length = 512) : (u8s zs).toArray.size = 512 := by simp [u8s, h]

section
variable {P : Program} {w : World} {T E : TypeId} {ops : Array Oper} {rest : List Oper} {o : Oper} {a : Act} {Q : Exit → Act → World → Prop}

theorem wpList_sec_alloc (S : SecT P T E) (hg : o.guard = none) (hop : o.op = Op.alloc T)
    (hC : wpList P ops Q rest (a.put o.dst (.pointer (some ⟨w.heap.size, 0, none⟩))) (w.alloc (.cells (u8s noughts).toArray T))) : wpList P ops Q (o :: rest) a w := by
  refine wpList_plain hg fun K' hK' => ?_
  have hrun : (Instr.alloc T true (.tuple #[])).run P w = .ok (.pointer (some ⟨w.heap.size, 0, none⟩)) (w.alloc (.cells (u8s noughts).toArray T)) := by
    simp [Instr.alloc, S.zero, newVar, newRow, secV, Value.cells, Result.andThen]
  unfold Oper.wp
  simp only [execOp, hop, Sem.run_bind, hrun, Result.andThen, Sem.run_pure]
  exact hK' _ _ hC

theorem run_sec_store (S : SecT P T E) {g : Nat} {t : TypeId} {cs : Array Value} (h : Blk w g t cs) (hcs : cs.size = 512) {zs : List Int} (hz : zs.length = 512) :
    ∃ w', (Instr.storeAt T (.pointer (some ⟨g, 0, none⟩)) (secV zs)).run P w = .ok () w' ∧ Blk w' g t (u8s zs).toArray ∧ w.grownBy w' (some g) ∧ w'.heap.size = w.heap.size := by
  refine ⟨w.setRow g (u8s zs).toArray, ?_, setRow_heap w g cs _ t _ h, ⟨rfl, rfl, rfl, by simp, fun k _ hk => setRow_other w g k _ (fun e => hk (by rw [e]))⟩, by simp⟩
  simp only [Instr.storeAt, Instr.sureAddr, Sem.run_bind, Sem.run_pure, Result.andThen]
  exact run_storeVar_row w g t T cs _ h (by rw [S.size, u8s_size hz]) (by rw [hcs, u8s_size hz]) (by
    rw [Array.all_eq_true_iff_forall_mem]
    intro v hv
    exact u8s_one zs v (by simpa using hv))

theorem wpList_sec_storeAt (S : SecT P T E) (hg : o.guard = none) (x v : Operand) (hop : o.op = Op.store T x v) (g : Nat) (hx : a.eval x = .pointer (some ⟨g, 0, none⟩)) (t : TypeId) (cs : Array Value) (h : Blk w g t cs) (hcs : cs.size = 512)
    (zs : List Int) (hv : a.eval v = secV zs) (hz : zs.length = 512)
    (hC : ∀ w', Blk w' g t (u8s zs).toArray → w.grownBy w' (some g) → w'.heap.size = w.heap.size → wpList P ops Q rest (a.put o.dst undef) w') : wpList P ops Q (o :: rest) a w := by
  refine wpList_plain hg fun K' hK' => ?_
  obtain ⟨w', hrun, r1, r2, r3⟩ := run_sec_store S h hcs hz
  unfold Oper.wp
  simp only [execOp, hop, hx, hv, Sem.run_bind, hrun, Result.andThen, Sem.run_pure]
  exact hK' _ _ (hC w' r1 r2 r3)

theorem run_sec_load (S : SecT P T E) {g : Nat} {t : TypeId} {zs : List Int} (h : Blk w g t (u8s zs).toArray) (hz : zs.length = 512) : (Instr.loadAt T (.pointer (some ⟨g, 0, none⟩))).run P w = .ok (secV zs) w := by
  simp only [Instr.loadAt, Instr.sureAddr, Sem.run_bind, Sem.run_pure, Result.andThen]
  exact run_loadVar_row w g t T _ (0, 0) _ h S.und rfl (by rw [S.size, u8s_size hz])

theorem wpList_sec_load (S : SecT P T E) (hg : o.guard = none) (x : Operand) (hop : o.op = Op.load T x) (g : Nat) (hx : a.eval x = .pointer (some ⟨g, 0, none⟩)) (t : TypeId) (zs : List Int) (h : Blk w g t (u8s zs).toArray) (hz : zs.length = 512)
    (hC : wpList P ops Q rest (a.put o.dst (secV zs)) w) : wpList P ops Q (o :: rest) a w := by
  refine wpList_plain hg fun K' hK' => ?_
  have hrun := run_sec_load (P := P) S h hz
  unfold Oper.wp
  simp only [execOp, hop, hx, Sem.run_bind, hrun, Result.andThen, Sem.run_pure]
  exact hK' _ _ hC

/-- A part of a longer row of bytes, read as an array. -/
theorem run_sec_load_of (S : SecT P T E) {g : Nat} {t : TypeId} {cs : Array Value} {zs : List Int} (h : Blk w g t cs) (hz : zs.length = 512) (hcs : cs.toList.take 512 = u8s zs) : (Instr.loadAt T (.pointer (some ⟨g, 0, none⟩))).run P w = .ok (secV zs) w :=
  run_loadAt_mid w g 0 T (u8s zs) _ (fun j v hv => by
    rw [h.cell, Nat.zero_add]
    rw [← hcs, List.getElem?_take] at hv
    split at hv
    · simpa using hv
    · cases hv) S.und rfl (by rw [S.size, u8s_length, hz])

/-! in the head of a region that draws its order -/
theorem wpStill_value {Q' : Act → Prop} (hg : o.guard = none) (v : Value) (hrun : (execOp a.eval o).run P w = .ok (.value v) w) (hC : wpStill P ops w Q' rest (a.put o.dst v)) : wpStill P ops w Q' (o :: rest) a := by
  refine wpStill_step fun K hK => ?_
  simp only [Region.wanted, hg, if_true, Oper.still, hrun, Oper.stillUpon]
  exact ⟨trivial, hK _ hC⟩
theorem wpStill_sec_load (S : SecT P T E) {Q' : Act → Prop} (hg : o.guard = none) (x : Operand) (hop : o.op = Op.load T x) (g : Nat) (hx : a.eval x = .pointer (some ⟨g, 0, none⟩)) (t : TypeId) (zs : List Int) (h : Blk w g t (u8s zs).toArray) (hz : zs.length = 512)
    (hC : wpStill P ops w Q' rest (a.put o.dst (secV zs))) : wpStill P ops w Q' (o :: rest) a := by
  refine wpStill_value hg _ ?_ hC
  have hrun := run_sec_load (P := P) S h hz
  simp only [execOp, hop, hx, Sem.run_bind, hrun, Result.andThen, Sem.run_pure]
theorem wpStill_sec_load_of (S : SecT P T E) {Q' : Act → Prop} (hg : o.guard = none) (x : Operand) (hop : o.op = Op.load T x) (g : Nat) (hx : a.eval x = .pointer (some ⟨g, 0, none⟩)) (t : TypeId) (cs : Array Value) (zs : List Int) (h : Blk w g t cs) (hz : zs.length = 512) (hcs : cs.toList.take 512 = u8s zs)
    (hC : wpStill P ops w Q' rest (a.put o.dst (secV zs))) : wpStill P ops w Q' (o :: rest) a := by
  refine wpStill_value hg _ ?_ hC
  have hrun := run_sec_load_of (P := P) S h hz hcs
  simp only [execOp, hop, hx, Sem.run_bind, hrun, Result.andThen, Sem.run_pure]
theorem wpList_sec_look_ok {K M : TypeId} {b : Nat} {f : Int → Option (List Int)} (S : SecT P T E) (hg : o.guard = none) (m x : Operand) (hop : o.op = Op.lookup M m x true) (hK : P.underlying K = some (.int .i64)) (hM : P.underlying M = some (.map K T))
    (hm : a.eval m = .map (some b)) (h : MapIs P K w b f) (k : Int) (hx : a.eval x = .int .i64 k) (hk : (Lit.int .i64 k).wf = true) (r : Option (List Int)) (hr : f k = r)
    (hC : wpList P ops Q rest (a.put o.dst (.tuple #[secV (r.getD noughts), .bool r.isSome])) w) : wpList P ops Q (o :: rest) a w := by
  refine wpList_plain hg fun K' hK' => ?_
  have hrun := h.look w hK hM (S.zero w) hk true
  rw [hr] at hrun
  unfold Oper.wp
  simp only [execOp, hop, hm, hx, Sem.run_bind, hrun, Result.andThen, Sem.run_pure, if_true]
  exact hK' _ _ hC
theorem wpList_sec_look {K M : TypeId} {b : Nat} {f : Int → Option (List Int)} (S : SecT P T E) (hg : o.guard = none) (m x : Operand) (hop : o.op = Op.lookup M m x false) (hK : P.underlying K = some (.int .i64)) (hM : P.underlying M = some (.map K T))
    (hm : a.eval m = .map (some b)) (h : MapIs P K w b f) (k : Int) (hx : a.eval x = .int .i64 k) (hk : (Lit.int .i64 k).wf = true) (r : List Int) (hr : (f k).getD noughts = r)
    (hC : wpList P ops Q rest (a.put o.dst (secV r)) w) : wpList P ops Q (o :: rest) a w := by
  refine wpList_plain hg fun K' hK' => ?_
  have hrun := h.look w hK hM (S.zero w) hk false
  rw [hr] at hrun
  unfold Oper.wp
  simp only [execOp, hop, hm, hx, Sem.run_bind, hrun, Result.andThen, Sem.run_pure]
  exact hK' _ _ hC
end

/-- n bytes zs at the head of block g, which has room for cap. -/
structure RowB (w : World) (U g n cap : Nat) (zs : List Int) : Prop where
  len : zs.length = n
  le : n ≤ cap
  max : cap ≤ maxLen
  row : ∃ cs, Blk w g U cs ∧ cs.size = cap ∧ cs.toList.take n = u8s zs

section
variable {w w' : World} {U g n cap : Nat} {zs : List Int}
theorem RowB.lt (h : RowB w U g n cap zs) : g < w.heap.size := let ⟨_, hb, _⟩ := h.row; hb.lt
theorem RowB.turned {W : Nat → Prop} (h : RowB w U g n cap zs) (ht : Turned W w w') (hg : ¬ W g) : RowB w' U g n cap zs :=
  let ⟨cs, hb, r⟩ := h.row; ⟨h.len, h.le, h.max, cs, hb.turned ht hg, r⟩
theorem RowB.own (h : RowB w U g n cap zs) {base : Nat} (hb : base ≤ g) : w.ownsRow base U 1 (.slice (some ⟨g, 0, none⟩) n cap) n (u8s zs) :=
  let ⟨cs, hb', hs, ht⟩ := h.row; ⟨by rw [u8s_length, h.len, Nat.mul_one], .inr ⟨g, cap, cs, rfl, hb, hb', h.le, h.max, by rw [hs, Nat.mul_one], by rw [Nat.mul_one]; exact ht⟩⟩
theorem RowB.of_own {base : Nat} (h : w.ownsRow base U 1 (.slice (some ⟨g, 0, none⟩) n cap) n (u8s zs)) : RowB w U g n cap zs := by
  obtain ⟨h1, h2⟩ := h
  rcases h2 with ⟨h2, _⟩ | ⟨g', cap', cs, hv, _, hb, hn, hc, hs, ht⟩
  · cases h2
  · injection hv with hv1 hv2 hv3
    injection hv1 with hv1
    injection hv1 with hv1
    subst hv1 hv3
    rw [Nat.mul_one] at hs ht
    exact ⟨by rw [u8s_length, Nat.mul_one] at h1; exact h1, hn, hc, cs, hb, hs, ht⟩
theorem RowB.cell (h : RowB w U g n cap zs) {i : Nat} (hi : i < n) : w.cell? ⟨g, i, none⟩ = some (.int .u8 (zs.getD i 0)) := by
  obtain ⟨cs, hb, hs, ht⟩ := h.row
  have hl := h.len
  rw [hb.cell]
  have h1 : (u8s zs)[i]? = some (.int .u8 (zs.getD i 0)) := by
    simp only [u8s, List.getElem?_map, List.getD_eq_getElem?_getD]
    rw [List.getElem?_eq_getElem (by omega)]
    rfl
  rw [← ht, List.getElem?_take, if_pos hi] at h1
  simpa using h1
theorem RowB.frozen (h : RowB w U g n cap zs) (i : Nat) : w.frozen? ⟨g, i, none⟩ = false := let ⟨_, hb, _⟩ := h.row; hb.frozen i
/-- A shorter part of it. -/
theorem RowB.cut (h : RowB w U g n cap zs) {k : Nat} (hk : k ≤ n) : RowB w U g k cap (zs.take k) := by
  obtain ⟨cs, hb, hs, ht⟩ := h.row
  have hl := h.len
  have hle := h.le
  refine ⟨by rw [List.length_take]; omega, by omega, h.max, cs, hb, hs, ?_⟩
  have : cs.toList.take k = (cs.toList.take n).take k := by rw [List.take_take, Nat.min_eq_left hk]
  rw [this, ht]
  simp [u8s]
end

/-- S is []byte, U byte. -/
structure BytT (P : Program) (S U : TypeId) : Prop where
  und : P.underlying S = some (.slice U)
  info : (P.info? U).map (fun i => (i.zero, i.size, i.bytes)) = some (some (.int .u8 0), 1, 1)

section
variable {P : Program} {w : World} {S U : TypeId} {ops : Array Oper} {rest : List Oper} {o : Oper} {a : Act} {Q : Exit → Act → World → Prop}
theorem wpList_slice_arr {T : TypeId} (A : SecT P T U) (hU : P.cellsOf U = 1) (hg : o.guard = none) (x : Operand) (hop : o.op = Op.slice T x none none none) (g : Nat) (hx : a.eval x = .pointer (some ⟨g, 0, none⟩))
    (hC : wpList P ops Q rest (a.put o.dst (.slice (some ⟨g, 0, none⟩) 512 512)) w) : wpList P ops Q (o :: rest) a w := by
  refine wpList_plain hg fun K' hK' => ?_
  have hrun : (Instr.sliceAt T (.pointer (some ⟨g, 0, none⟩)) none none none).run P w = .ok (.slice (some ⟨g, 0, none⟩) 512 512) w := by
    have h0 : (⟨g, 0, none⟩ : Addr).add 0 = ⟨g, 0, none⟩ := rfl
    have hs : ∃ s, (sizeOf U).run P w = .ok s w := by
      unfold Program.cellsOf at hU
      cases hq : P.info? U with
      | none => simp [hq] at hU
      | some i => exact ⟨i.size, by simp [sizeOf, typeInfo, hq]⟩
    obtain ⟨s, hs⟩ := hs
    simp only [Instr.sliceAt, Sem.run_bind, run_underlying A.und, Result.andThen, Instr.sureAddr, Sem.run_pure, Instr.sliceBounds, hs, Nat.zero_mul, h0]
    simp
  unfold Oper.wp
  simp only [execOp, hop, hx, Sem.run_bind, Option.map_none, hrun, Result.andThen, Sem.run_pure]
  exact hK' _ _ hC
theorem wpList_bytes_none (B : BytT P S U) (hg : o.guard = none) (hop : o.op = Op.buildSlice S 0 #[])
    (hC : wpList P ops Q rest (a.put o.dst (.slice (some ⟨w.heap.size, 0, none⟩) 0 0)) (w.alloc (.cells #[] U))) : wpList P ops Q (o :: rest) a w := by
  refine wpList_plain hg fun K' hK' => ?_
  have hrun : (Instr.buildSlice S 0 #[]).run P w = .ok (.slice (some ⟨w.heap.size, 0, none⟩) 0 0) (w.alloc (.cells #[] U)) := by
    obtain ⟨i, hi, hz0, hz1, hz2⟩ := info_parts B.info
    simp [Instr.buildSlice, run_underlying B.und, sizeOf, typeInfo, hi, Instr.fill, newRow, Result.andThen]
    have : ∀ f : Nat → Value, Array.map f (Array.range 0) = #[] := fun f => by simp [Array.range]
    rw [this]
  unfold Oper.wp
  simp only [execOp, hop, Sem.run_bind, List.map_toArray, List.map_nil, hrun, Result.andThen, Sem.run_pure]
  exact hK' _ _ hC
theorem own_none (w : World) {base : Nat} (h : base ≤ w.heap.size) (U : TypeId) : (w.alloc (.cells #[] U)).ownsRow base U 1 (.slice (some ⟨w.heap.size, 0, none⟩) 0 0) 0 (u8s []) :=
  World.ownsRow_made w #[] 0 h (by simp) rfl
theorem wpList_bytes_append (B : BytT P S U) (hg : o.guard = none) (s x : Operand) (hop : o.op = .call { callee := .builtin .append, args := #[s, x], argTypes := #[S, S] })
    (v : Value) (base n : Nat) (xs zs : List Int) (hs : a.eval s = v) (hown : w.ownsRow base U 1 v n (u8s xs)) (ad : Addr) (m c : Nat) (hx : a.eval x = .slice (some ad) m c) (hl : zs.length = m)
    (hnews : ∀ j u, (u8s zs)[j]? = some u → w.cell? (ad.add j) = some u) (hm : 0 < m) (hb : n + m ≤ 140737488355328) (hbase : base ≤ w.heap.size)
    (hC : ∀ g cap w', RowB w' U g (n + m) cap (xs ++ zs) → w.grownBy w' v.ownBlock → (v.ownBlock = some g ∨ g = w.heap.size) → g < w'.heap.size → wpList P ops Q rest (a.put o.dst (.slice (some ⟨g, 0, none⟩) (n + m) cap)) w') : wpList P ops Q (o :: rest) a w := by
  obtain ⟨i, hi, hz0, hz1, hz2⟩ := info_parts B.info
  refine wpList_append_lies _ hg s x S hop base U i (.int .u8 0) 1 1 B.und hi hz0 hz1 hz2 rfl (by omega) v n (u8s xs) hs hown ad m c (u8s zs) hx (by rw [u8s_length, hl, Nat.mul_one]) hnews (u8s_one zs) hm (by simp only [maxLen]; omega) (by omega) hbase _ rfl ?_
  intro g cap w' h1 h2 h3 h4
  refine hC g cap w' (RowB.of_own (base := base) ?_) h2 h3 h4
  have : u8s (xs ++ zs) = u8s xs ++ u8s zs := by simp [u8s]
  rw [this]; exact h1
theorem news_of_row {g n cap : Nat} {zs : List Int} (h : RowB w U g n cap zs) : ∀ j u, (u8s zs)[j]? = some u → w.cell? ((⟨g, 0, none⟩ : Addr).add j) = some u := by
  intro j u hu
  have hj : j < n := by
    have := (List.getElem?_eq_some_iff.1 hu).1
    rw [u8s_length, h.len] at this
    exact this
  rw [Addr.add_mid, Nat.zero_add, h.cell hj, ← hu]
  have := h.len
  simp only [u8s, List.getElem?_map, List.getD_eq_getElem?_getD]
  rw [List.getElem?_eq_getElem (by omega)]
  rfl
theorem news_of_sec {g : Nat} {T : TypeId} {zs : List Int} (h : Blk w g T (u8s zs).toArray) : ∀ j u, (u8s zs)[j]? = some u → w.cell? ((⟨g, 0, none⟩ : Addr).add j) = some u := by
  intro j u hu
  rw [Addr.add_mid, Nat.zero_add, h.cell]
  simpa using hu
end
end Go.Proofs.YtfheikmjjijdpaaDoor

