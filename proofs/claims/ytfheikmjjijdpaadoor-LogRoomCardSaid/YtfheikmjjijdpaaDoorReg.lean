/-
  A region that draws its order: some operations are taken first (each yields one value in every world that meets S), the others come in one forced order, and S stands behind each of them. No condition: laws over any program.
-/
import Derived.Test.YtfheikmjjijdpaaDoorArr
import Derived.OrdersHeld
import Derived.Deep.RegionHeld
namespace Go.Proofs.YtfheikmjjijdpaaDoor
open Go.RowKit Go.Maps

def pickOps (l : List Oper) (is : List Nat) : List Oper := is.filterMap (l[·]?)

section
variable {P : Program} {ops : Array Oper} {Q : Exit → Act → World → Prop} {md : Region.Mode} {S : World → Prop}

/-- May these be taken first, one behind the other, and come the others in just this order? -/
def tailB (md : Region.Mode) (ops : Array Oper) : List Nat → Array Bool → Bool
  | [], listed => (Region.ready md ops listed).isEmpty
  | k :: r, listed => decide (Region.ready md ops listed = [k]) && tailB md ops r (listed.setIfInBounds k true)
def headB (md : Region.Mode) (ops : Array Oper) : List Nat → List Nat → Array Bool → Bool
  | [], r, listed => tailB md ops r listed
  | i :: h, r, listed => (Region.ready md ops listed).contains i && Region.free md ops listed i && headB md ops h r (listed.setIfInBounds i true)

def wpHead (P : Program) (ops : Array Oper) (S : World → Prop) (K : Act → Prop) : List Oper → Act → Prop
  | [], a => K a
  | o :: rest, a => ∃ v, YieldsIf P ops S o v a ∧ wpHead P ops S K rest (a.put o.dst v)
theorem wpHead_nil {K : Act → Prop} {a : Act} (h : K a) : wpHead P ops S K [] a := h
theorem wpHead_step {K : Act → Prop} {a : Act} {o : Oper} {rest : List Oper} {v : Value} (hg : o.guard = none) (hy : ∀ w, S w → (execOp a.eval o).run P w = .ok (.value v) w)
    (h : wpHead P ops S K rest (a.put o.dst v)) : wpHead P ops S K (o :: rest) a :=
  ⟨v, .inl ⟨by simp [Region.wanted, hg], hy⟩, h⟩
theorem wpHead_step_if {K : Act → Prop} {a : Act} {o : Oper} {rest : List Oper} {v : Value} (hy : YieldsIf P ops S o v a)
    (h : wpHead P ops S K rest (a.put o.dst v)) : wpHead P ops S K (o :: rest) a := ⟨v, hy, h⟩

theorem wpHead_sec_look {K M T E : TypeId} {b : Nat} {f : Int → Option (List Int)} (A : SecT P T E) {K' : Act → Prop} {a : Act} {o : Oper} {rest : List Oper} (hg : o.guard = none) (m x : Operand) (hop : o.op = Op.lookup M m x true) (hK : P.underlying K = some (.int .i64)) (hM : P.underlying M = some (.map K T))
    (hm : a.eval m = .map (some b)) (h : ∀ w, S w → MapIs P K w b f) (k : Int) (hx : a.eval x = .int .i64 k) (hk : (Lit.int .i64 k).wf = true) (r : Option (List Int)) (hr : f k = r)
    (hC : wpHead P ops S K' rest (a.put o.dst (.tuple #[secV (r.getD noughts), .bool r.isSome]))) : wpHead P ops S K' (o :: rest) a := by
  refine wpHead_step hg (fun w hw => ?_) hC
  have hrun := (h w hw).look w hK hM (A.zero w) hk true
  rw [hr] at hrun
  simp only [execOp, hop, hm, hx, Sem.run_bind, hrun, Result.andThen, Sem.run_pure, if_true]
def wpSeqS (P : Program) (ops : Array Oper) (Q : Exit → Act → World → Prop) (S : World → Prop) : List Oper → Act → World → Prop
  | [], a, w => Q .normal a w
  | o :: rest, a, w => if Region.wanted o (yielded ops a.tmps) then o.wp P a w (fun a' w' => S w' ∧ wpSeqS P ops Q S rest a' w') Q else (S w ∧ wpSeqS P ops Q S rest (a.put o.dst undef) w)
theorem wpSeqS_nil {a : Act} {w : World} (h : Q .normal a w) : wpSeqS P ops Q S [] a w := h
theorem wpSeqS_step {a : Act} {w : World} {o : Oper} {rest : List Oper} (hg : o.guard = none)
    (h : ∀ K : Act → World → Prop, Shut (∀ a w, S w → wpSeqS P ops Q S rest a w → K a w) → o.wp P a w K Q) : wpSeqS P ops Q S (o :: rest) a w := by
  unfold wpSeqS
  rw [if_pos (by simp [Region.wanted, hg])]
  exact h _ (fun _ _ h1 h2 => ⟨h1, h2⟩)

theorem wpSeqS_sec_alloc {T E : TypeId} (A : SecT P T E) {a : Act} {w : World} {o : Oper} {rest : List Oper} (hg : o.guard = none) (hop : o.op = Op.alloc T) (hS : S (w.alloc (.cells (u8s noughts).toArray T)))
    (hC : wpSeqS P ops Q S rest (a.put o.dst (.pointer (some ⟨w.heap.size, 0, none⟩))) (w.alloc (.cells (u8s noughts).toArray T))) : wpSeqS P ops Q S (o :: rest) a w := by
  refine wpSeqS_step hg fun K' hK' => ?_
  have hrun : (Instr.alloc T true (.tuple #[])).run P w = .ok (.pointer (some ⟨w.heap.size, 0, none⟩)) (w.alloc (.cells (u8s noughts).toArray T)) := by
    simp [Instr.alloc, A.zero, newVar, newRow, secV, Value.cells, Result.andThen]
  unfold Oper.wp
  simp only [execOp, hop, Sem.run_bind, hrun, Result.andThen, Sem.run_pure]
  exact hK'.out _ _ hS hC
theorem wpSeqS_sec_storeAt {T E : TypeId} (A : SecT P T E) {a : Act} {w : World} {o : Oper} {rest : List Oper} (hg : o.guard = none) (x v : Operand) (hop : o.op = Op.store T x v) (g : Nat) (hx : a.eval x = .pointer (some ⟨g, 0, none⟩)) (t : TypeId) (cs : Array Value) (h : Blk w g t cs) (hcs : cs.size = 512)
    (zs : List Int) (hv : a.eval v = secV zs) (hz : zs.length = 512) (hS : ∀ w', w.grownBy w' (some g) → S w')
    (hC : ∀ w', Blk w' g t (u8s zs).toArray → w.grownBy w' (some g) → w'.heap.size = w.heap.size → wpSeqS P ops Q S rest (a.put o.dst undef) w') : wpSeqS P ops Q S (o :: rest) a w := by
  refine wpSeqS_step hg fun K' hK' => ?_
  obtain ⟨w', hrun, r1, r2, r3⟩ := run_sec_store A h hcs hz
  unfold Oper.wp
  simp only [execOp, hop, hx, hv, Sem.run_bind, hrun, Result.andThen, Sem.run_pure]
  exact hK'.out _ _ (hS w' r2) (hC w' r1 r2 r3)

theorem wpAnyH_tail : ∀ (r : List Nat) (l : List Oper) (listed : Array Bool) (a : Act) (w : World), l = pickOps ops.toList r → (∀ i ∈ r, i < ops.size) → tailB md ops r listed = true → wpSeqS P ops Q S l a w → wpAnyH P md ops Q S r.length listed a w
  | [], l, listed, a, w, hl, _, hB, h => by
    subst hl
    exact ⟨by simpa [tailB] using hB, h⟩
  | k :: r, l, listed, a, w, hl, hi, hB, h => by
    simp only [tailB, Bool.and_eq_true, decide_eq_true_eq] at hB
    have hk : k < ops.size := hi k (by simp)
    have hok : ops[k]? = some ops[k] := Array.getElem?_eq_getElem hk
    have hl' : l = ops[k] :: pickOps ops.toList r := by
      rw [hl]
      simp only [pickOps]
      rw [List.filterMap_cons]
      have : ops.toList[k]? = some ops[k] := by simp
      rw [this]
    rw [hl'] at h
    refine wpAnyH_all hB.1 (by simp) (fun i hi' => ?_)
    have : i = k := by simpa using hi'
    subst this
    unfold wpOp
    rw [hok]
    show if Region.wanted ops[i] (yielded ops a.tmps) = true then _ else _
    unfold wpSeqS at h
    split
    · rename_i hw
      rw [if_pos hw] at h
      exact .inl (Oper.wp_mono (fun a' w' h' => ⟨h'.1, wpAnyH_tail r _ _ a' w' rfl (fun j hj => hi j (by simp [hj])) hB.2 h'.2⟩) h)
    · rename_i hw
      rw [if_neg hw] at h
      exact ⟨h.1, wpAnyH_tail r _ _ _ w rfl (fun j hj => hi j (by simp [hj])) hB.2 h.2⟩

theorem wpAnyH_head (hs : Region.noSelect ops = true) (hQ : ∀ c a d v w, Q (.panic c) (Act.put a (some d) v) w → Q (.panic c) a w) :
    ∀ (h r : List Nat) (l : List Oper) (listed : Array Bool) (a : Act) (w : World), l = pickOps ops.toList h → (∀ i ∈ h, i < ops.size) → (∀ i ∈ r, i < ops.size) → headB md ops h r listed = true → S w →
      wpHead P ops S (fun a' => wpSeqS P ops Q S (pickOps ops.toList r) a' w) l a → wpAnyH P md ops Q S (h.length + r.length) listed a w
  | [], r, l, listed, a, w, hl, _, hr, hB, _, hh => by
    subst hl
    simp only [List.length_nil, Nat.zero_add]
    exact wpAnyH_tail r _ listed a w rfl hr hB hh
  | i :: h, r, l, listed, a, w, hl, hi, hr, hB, hS, hh => by
    have hk : i < ops.size := hi i (by simp)
    have hok : ops[i]? = some ops[i] := Array.getElem?_eq_getElem hk
    have hl' : l = ops[i] :: pickOps ops.toList h := by
      rw [hl]
      simp only [pickOps]
      rw [List.filterMap_cons]
      have : ops.toList[i]? = some ops[i] := by simp
      rw [this]
    rw [hl'] at hh
    obtain ⟨v, hy, hh⟩ := hh
    have hB' : ((Region.ready md ops listed).contains i = true ∧ Region.free md ops listed i = true) ∧ headB md ops h r (listed.setIfInBounds i true) = true := by
      simpa only [headB, Bool.and_eq_true] using hB
    rw [show (i :: h).length + r.length = (h.length + r.length) + 1 by simp; omega]
    exact wpAnyH_take hok hs hB'.1.2 hB'.1.1 (fun c a w hp => by
      cases hd : ops[i].dst with
      | none => rw [hd] at hp; exact hp
      | some d => rw [hd] at hp; exact hQ c a d _ w hp) hy hS (wpAnyH_head hs hQ h r _ _ _ w rfl (fun j hj => hi j (by simp [hj])) hr hB'.2 hS hh)

/-- The whole check, for the kernel. -/
def regB (l : List Oper) (h r : List Nat) : Bool :=
  Region.noSelect l.toArray && (h ++ r).all (fun i => decide (i < l.toArray.size)) && decide (h.length + r.length = l.toArray.size) && headB .any l.toArray h r (Array.replicate l.toArray.size false)

theorem wp_region_order {id : Nat} {a : Act} {w : World} {l : List Oper} (S : World → Prop) (h r : List Nat) (hm : P.follows .mixedOrders = true) (hB : regB l h r = true)
    (hQ : ∀ c a d v w, Q (.panic c) (Act.put a (some d) v) w → Q (.panic c) a w) (hS : S w.drew)
    (hh : wpHead P l.toArray S (fun a' => wpSeqS P l.toArray Q S (pickOps l r) a' w.drew) (pickOps l h) a) : (Code.region id l.toArray true).wp P Q a w := by
  simp only [regB, Bool.and_eq_true, decide_eq_true_eq, List.all_eq_true, List.mem_append] at hB
  obtain ⟨⟨⟨h1, h2⟩, h3⟩, h4⟩ := hB
  refine wp_region_held (S := S) hm ?_
  rw [← h3]
  rw [show Array.replicate (h.length + r.length) false = Array.replicate l.toArray.size false by rw [h3]]
  exact wpAnyH_head h1 hQ h r _ _ a w.drew rfl (fun i hi => h2 i (.inl hi)) (fun i hi => h2 i (.inr hi)) h4 hS hh
end
end Go.Proofs.YtfheikmjjijdpaaDoor
