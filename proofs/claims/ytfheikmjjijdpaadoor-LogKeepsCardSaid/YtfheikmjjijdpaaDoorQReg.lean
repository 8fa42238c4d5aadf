/-
  ytfheikmjjijdpaadoor: laws and walks on the road to LogKeeps, joined: DskC Reg. Conditions stand at each theorem.
-/
import Derived.Test.YtfheikmjjijdpaaDoorQDskB
import Derived.Test.YtfheikmjjijdpaaDoorQArr
import Derived.OrdersHeld
import Derived.Deep.RegionHeld
namespace Go.Proofs.YtfheikmjjijdpaaDoor
open Go.RowKit Go.Maps

def DA.sync (A : DA) : DA := if tickD A.armed then { A with armed := tickA A.armed, down := true } else { A with saf := A.lat, opn := fun _ => false, armed := tickA A.armed, down := false }

theorem sync_crash (d s o : Nat) (A : DA) (w : World) (h : IsDisk w d s o A) (hdn : A.down = false) (hb : tickD A.armed = true) :
    Calls Tryd.prog 47 #[.pointer (some ⟨d, 0, none⟩)] w (StPost 8 d s o A.sync w) := by
  obtain ⟨c0, c1, c2, c3, c4⟩ := cells_of_blk h.blk
  have hn1 := h.n1
  rw [hdn] at c4
  have hB : Blk w d 79 (dskCells A.n s o A.armed false) := by have := h.blk; rw [hdn] at this; exact this
  have hA := Lib.hid (And.intro h.a1 h.a2)
  have hdd := Lib.hid hdn
  clear hdn
  go_enter Tryd.func47, Tryd.ntmps47
  go_wp2_with (first
    | (go_at_call 52; refine (may_ok d A.n 0 _ c0 hn1 c4 (by omega) (by omega)).mono ?_; rintro e w' ⟨rfl, rfl⟩)
    | (go_at_call 65; refine (crash_tick d s o A.n A.armed _ hB hA.out.1 hA.out.2).mono ?_; rintro e w2 ⟨rfl, hB2, ht2⟩))
  go_ret
  have e1 : A.sync = { A with armed := tickA A.armed, down := true } := by unfold DA.sync; rw [if_pos hb]
  refine ⟨rfl, ?_, ht2.mono (fun i hi => .inl (.inl hi))⟩
  rw [e1]
  obtain ⟨vs, vo, m1, m2, r⟩ := h.maps
  have ht := tickA_le h.a1
  rw [hb] at hB2
  exact ⟨hB2, h.ne, h.n1, h.n2, ht.1, Int.le_trans ht.2 h.a2, vs, vo, m1.turned ht2 (fun e => m1.ne_blk h.blk e.symm), m2.turned ht2 (fun e => m2.ne_blk h.blk e.symm), r⟩

/-- How the safe map reads while open sectors are gone through. -/
def mixed2 (vs vo : Int → Option (List Int)) (left : Lit → Bool) (k : Int) : Option (List Int) := if left (.int .i64 k) then vs k else (vo k).or (vs k)
theorem mixed2_start {P : Program} {K : TypeId} {w : World} {b n : Nat} {D : DataW (List Int)} {vs vo : Int → Option (List Int)} (ho : w.ownsMap P K secR b n D) (hK : P.underlying K = some (.int .i64)) (hv : ∀ k, (Lit.int .i64 k).wf = true → mview D k = vo k) (k : Int) (hk : (Lit.int .i64 k).wf = true) : vs k = mixed2 vs vo (Maps.has D) k := by
  unfold mixed2
  rcases ownsMap_at ho hK hk with ⟨h1, h2⟩ | ⟨zs, h1, h2, _⟩
  · rw [h2, ← hv k hk, h1]; simp
  · rw [h2]; simp
theorem mixed2_step {vs vo : Int → Option (List Int)} {left : Lit → Bool} {x : Int} {zs : List Int} (hx : vo x = some zs) (k : Int) : upd (mixed2 vs vo left) x (some zs) k = mixed2 vs vo (fun z => left z && !z.sameKey (.int .i64 x)) k := by
  unfold upd mixed2
  by_cases e : k = x
  · subst e
    have : (Lit.int .i64 k).sameKey (.int .i64 k) = true := WideAt.sameKey_self trivial
    simp [hx, this]
  · have : (Lit.int .i64 k).sameKey (.int .i64 x) = false := Maps.sameKey_ne (by intro h; injection h with _ h; exact e h)
    simp [e, this]
theorem mixed2_end {vs vo : Int → Option (List Int)} {left : Lit → Bool} (h : ∀ kl, left kl = false) (k : Int) : mixed2 vs vo left k = (vo k).or (vs k) := by
  unfold mixed2
  rw [h]; simp

def SyncRel (d s o r : Nat) (n a : Int) (dn : Bool) (vs vo : Int → Option (List Int)) (N : Nat) (D : DataW (List Int)) (w wr : World) : Prop :=
  ∃ left cnt, wr.ranges Tryd.prog 3 secR o r N D left cnt ∧ MapIs Tryd.prog 3 wr s (mixed2 vs vo left) ∧ Blk wr d 79 (dskCells n s o a dn) ∧ Turned (dskW d s o) w wr ∧ r < wr.heap.size

set_option maxRecDepth 100000 in
set_option maxHeartbeats 1000000 in
theorem sync_ok (d s o : Nat) (A : DA) (w : World) (h : IsDisk w d s o A) (hdn : A.down = false) (hb : tickD A.armed = false) :
    Calls Tryd.prog 47 #[.pointer (some ⟨d, 0, none⟩)] w (StPost 0 d s o A.sync w) := by
  obtain ⟨vs, vo, m1, m2, b1, b2, e1, e2, e3, s1, s2⟩ := h.maps
  obtain ⟨c0, c1, c2, c3, c4⟩ := cells_of_blk h.blk
  have hn1 := h.n1
  have hn2 := h.n2
  rw [hdn] at c4
  have hB : Blk w d 79 (dskCells A.n s o A.armed false) := by have := h.blk; rw [hdn] at this; exact this
  have hA := Lib.hid (And.intro h.a1 h.a2)
  have hdd := Lib.hid hdn
  have hne := h.ne
  have hdo := m2.ne_blk hB
  have hds := m1.ne_blk hB
  obtain ⟨D, hO, hV⟩ := m2.bound (N := 8192) Tryd.underlying3 (fun k hk => by have := b2 k hk; omega)
  have hV' := Lib.hid hV
  have hb1 := Lib.hid b1
  have hb2 := Lib.hid b2
  have hee := Lib.hid (And.intro e1 (And.intro e2 (And.intro e3 (And.intro s1 s2))))
  have hh := Lib.hid h
  have hbb := Lib.hid hb
  clear hdn hV b1 b2 e1 e2 e3 s1 s2 h
  go_enter Tryd.func47, Tryd.ntmps47
  go_wp2_with (first
    | (go_at_call 52; refine (may_ok d A.n 0 _ c0 hn1 c4 (by omega) (by omega)).mono ?_; rintro e w' ⟨rfl, rfl⟩)
    | (go_at_call 65; refine (crash_tick d s o A.n A.armed _ hB hA.out.1 hA.out.2).mono ?_; rintro e w2 ⟨rfl, hB2, ht2⟩; have hc2 := (cells_of_blk hB2).2.2.1)
    | (at_range; refine wpList_range_own _ rfl _ 77 rfl 3 111 (int_keyed Tryd.underlying3) Tryd.underlying77 secR o 8192 D rfl (ownsMap_turned hO ht2 (fun e => hdo e.symm)) ?_; intro w3 hrg hg3 hs3))
  go_frame
  go_loopw [4] (fun _ wr => SyncRel d s o w2.heap.size A.n (tickA A.armed) (tickD A.armed) vs vo 8192 D w wr) (fun _ wr => wr.rangeLeft o w2.heap.size)
  case atStart =>
    have hr0 : w2.heap.size < w3.heap.size := by omega
    exact ⟨_, _, hrg, ((m1.turned ht2 (fun e => hds e.symm)).grown hg3 (by simp)).congr_wf (fun k hk => mixed2_start hO Tryd.underlying3 hV'.out k hk), hB2.grown hg3 (by simp), (ht2.mono (W' := dskW d s o) (fun i hi => .inl (.inl hi))).grown hg3 (by simp), hr0⟩
  case round =>
    obtain ⟨left, cnt, hrg, hm, hBr, htr, hlt⟩ := hrel
    have hcr := cells_of_blk hBr
    obtain ⟨r0, r1, r2, r3, r4⟩ := hcr
    go_wp2_with (at_next; refine wpList_next_ranges _ rfl (.tmp 17) rfl 3 (int_keyed Tryd.underlying3) secR (Value.int .i64) secV (fun key kl hkey => by obtain ⟨x, rfl, _⟩ := Maps.keyOf_int_inv Tryd.underlying3 hkey; exact ⟨x, rfl⟩) (fun v y hv => by obtain ⟨zs, rfl, _⟩ := secR_inv hv; exact ⟨zs, rfl⟩) o w2.heap.size 8192 D left cnt rfl hrg ?_ ?_)
    · intro hc0 hl0
      go_wp2_with (refine wpList_sec_clear _ rfl (.tmp 32) 77 3 111 rfl Tryd.underlying77 o vo rfl ⟨_, _, hrg.owns, hV'.out⟩ ?_; intro w5 m5 hg5)
      go_ret
      have e1 : A.sync = { A with saf := A.lat, opn := fun _ => false, armed := tickA A.armed, down := false } := by unfold DA.sync; rw [hbb.out]; rfl
      obtain ⟨f1, f2, f3, f4, f5⟩ := hee.out
      have ht := tickA_le hA.out.1
      have hB5 := blk_grown hBr hg5 hdo
      refine ⟨rfl, ?_, htr.grown hg5 (fun i e => by injection e with e; subst e; exact .inl (.inr (.inr rfl)))⟩
      rw [e1]
      refine ⟨(by rw [hbb.out] at hB5; exact hB5), hne, hn1, hn2, ht.1, Int.le_trans ht.2 hA.out.2, fun k => (vo k).or (vs k), fun _ => none, ((hm.congr (mixed2_end hl0)).grown hg5 (fun e => hne (by injection e))), m5, ?_, by simp, ?_, fun _ => rfl, fun _ => rfl, f5, f5⟩
      · intro k hk
        have hk : (vo k).or (vs k) ≠ none := hk
        rcases hvk : vo k with _ | z
        · rw [hvk] at hk; exact hb1.out k (by simpa using hk)
        · exact hb2.out k (by rw [hvk]; simp)
      · intro k
        show A.lat k = ((vo k).or (vs k)).getD noughts
        rw [f3, f1]
        cases vo k <;> rfl
    · intro x zs kl y yp w4 cnt1 hkey hlk hRv hat hrg1 hlt1 hg4 hs4 hen
      obtain ⟨x', ex, rfl, hwx⟩ := Maps.keyOf_int_inv Tryd.underlying3 hkey
      injection ex with _ ex
      subst ex
      obtain ⟨zs', ez, hSz, ey⟩ := secR_inv hRv
      have hvx : vo x = some zs := by
        have h1 := hV'.out x hwx
        unfold mview at h1
        injection ey with ey1 ey2
        rw [hat, ey1] at h1
        rw [secV_inj ez]
        exact h1.symm
      have hBr4 := blk_grown hBr hg4 (fun e => by have := hB2.lt; omega)
      obtain ⟨r0, r1, r2, r3, r4⟩ := cells_of_blk hBr4
      have hzs : zs.length = 512 := by rw [secV_inj ez]; exact hSz.len
      have hSz' : Sec zs := by rw [secV_inj ez]; exact hSz
      have hm4 := hm.grown hg4 (fun e => by injection e with e; have := m1.lt; have := ht2.size; omega)
      have hvx' := Lib.hid hvx
      have hat' := Lib.hid hat
      have hs4' := Lib.hid hs4
      clear hvx hat hs4 ez ey hRv hSz
      go_wp2_with (first
        | (refine wpList_sec_alloc secT rfl rfl ?_)
        | (refine wpList_sec_storeAt secT rfl (.tmp 5) (.tmp 22) rfl w4.heap.size rfl 111 (u8s noughts).toArray (Blk.new_at _ _ _ rfl) (u8s_size sec_noughts.len) zs rfl hzs ?_; intro w5 hb5 hg5 hs5))
      have hs4 := hs4'.out
      have hd4 := hBr4.lt
      have hw24 : w2.heap.size < w4.heap.size := by omega
      have ho2 : o < w2.heap.size := by have := m2.lt; have := ht2.size; omega
      have hs2l : s < w2.heap.size := by have := m1.lt; have := ht2.size; omega
      have hB5 := blk_grown (hBr4.alloc (.cells (u8s noughts).toArray 111)) hg5 (by omega)
      have hm5 := (hm4.alloc (.cells (u8s noughts).toArray 111)).grown hg5 (fun e => by injection e with e; omega)
      have hrg5 := (hrg1.alloc (.cells (u8s noughts).toArray 111)).kept hg5 (fun e => by injection e with e; omega) (fun e => by injection e with e; omega)
      have htr5 : Turned (dskW d s o) w w5 := ((htr.grown hg4 (fun i e => by injection e with e; right; have := ht2.size; omega)).alloc (.cells (u8s noughts).toArray 111)).grown hg5 (fun i e => by injection e with e; right; have := htr.size; omega)
      obtain ⟨r0, r1, r2, r3, r4⟩ := cells_of_blk hB5
      have hs5' : w5.heap.size = w4.heap.size + 1 := by simpa using hs5
      have hs5'' := Lib.hid hs5'
      clear hs4 hs5 hs5'
      refine wp_region_still_tail 6 mixed (by kernel_rfl) ?_
      simp only [List.take_succ_cons, List.take_zero, List.drop_succ_cons, List.drop_zero]
      change wpStill _ _ w5.drew (fun a' => wpList _ _ _ _ a' w5.drew) _ _
      iterate 5 still_step
      refine wpStill_sec_load secT rfl (.tmp 5) rfl w4.heap.size rfl 111 zs hb5.drew hzs ?_
      refine wpStill_nil ?_
      refine wpList_sec_store _ rfl (.tmp 26) (.tmp 27) (.tmp 28) 77 3 111 rfl Tryd.underlying3 Tryd.underlying77 s (mixed2 vs vo left) rfl hm5.drew 8192 (by omega) (fun j hj => ?_) x rfl hwx zs rfl hSz' ?_
      · unfold mixed2 at hj
        split at hj
        · have := hb1.out j hj; omega
        · rcases hvk : vo j with _ | z
          · rw [hvk] at hj; have := hb1.out j (by simpa using hj); omega
          · have := hb2.out j (by rw [hvk]; simp); omega
      · intro w6 m6 hg6'
        have hg6 := grown_of_drew hg6'
        clear hg6'
        have hrg6 := hrg5.kept hg6 (fun e => hne (by injection e with e; exact e.symm)) (fun e => by injection e with e; omega)
        have hR : SyncRel d s o w2.heap.size A.n (tickA A.armed) (tickD A.armed) vs vo 8192 D w w6 := by
          have h1 := hg6.size
          have h2 := hs5''.out
          have h3 := hs4'.out
          exact ⟨_, _, hrg6, m6.congr (mixed2_step hvx'.out), blk_grown hB5 hg6 hds, htr5.grown hg6 (fun i e => by injection e with e; subst e; exact .inl (.inr (.inl rfl))), by omega⟩
        have hM : w6.rangeLeft o w2.heap.size < wr.rangeLeft o w2.heap.size := by rw [hrg6.left_eq, hrg.left_eq]; exact hlt1
        have hRM := Lib.hid (And.intro hR hM)
        clear hR hM
        go_wp2
        go_roundw
        case rel =>
          first
          | exact hRM.out.1
          | ((repeat apply Exists.intro); exact ⟨hRM.out.1, rfl⟩)
        case measure => exact hRM.out.2
end Go.Proofs.YtfheikmjjijdpaaDoor

namespace Go.Proofs.YtfheikmjjijdpaaDoor
open Go.RowKit Go.Maps

def pickOps (l : List Oper) (is : List Nat) : List Oper := is.filterMap (l[·]?)

section
variable {P : Program} {ops : Array Oper} {Q : Exit → Act → World → Prop} {md : Region.Mode} {S : World → Prop}

/-- May these be taken first, one behind the other, and come the others in just this order? -/
def tailB (md : Region.Mode) (ops : Array Oper) : List Nat → Array Bool → Bool
  | [], listed => (Region.ready md ops listed).isEmpty
  | k :: r, listed => decide (Region.ready md ops listed = [k]) && tailB md ops r (listed.setIfInBounds k true)
def headB (md : Region.Mode) (ops : Array Oper) : List Nat → List Nat → Array Bool → Bool
  | [], r, listed => tailB md ops r listed
  | i :: h, r, listed => (Region.ready md ops listed).contains i && Region.free md ops listed i && headB md ops h r (listed.setIfInBounds i true)

def wpHead (P : Program) (ops : Array Oper) (S : World → Prop) (K : Act → Prop) : List Oper → Act → Prop
  | [], a => K a
  | o :: rest, a => ∃ v, YieldsIf P ops S o v a ∧ wpHead P ops S K rest (a.put o.dst v)
theorem wpHead_nil {K : Act → Prop} {a : Act} (h : K a) : wpHead P ops S K [] a := h
theorem wpHead_step {K : Act → Prop} {a : Act} {o : Oper} {rest : List Oper} {v : Value} (hg : o.guard = none) (hy : ∀ w, S w → (execOp a.eval o).run P w = .ok (.value v) w)
    (h : wpHead P ops S K rest (a.put o.dst v)) : wpHead P ops S K (o :: rest) a :=
  ⟨v, .inl ⟨by simp [Region.wanted, hg], hy⟩, h⟩
theorem wpHead_sec_look {K M T E : TypeId} {b : Nat} {f : Int → Option (List Int)} (A : SecT P T E) {K' : Act → Prop} {a : Act} {o : Oper} {rest : List Oper} (hg : o.guard = none) (m x : Operand) (hop : o.op = Op.lookup M m x true) (hK : P.underlying K = some (.int .i64)) (hM : P.underlying M = some (.map K T))
    (hm : a.eval m = .map (some b)) (h : ∀ w, S w → MapIs P K w b f) (k : Int) (hx : a.eval x = .int .i64 k) (hk : (Lit.int .i64 k).wf = true) (r : Option (List Int)) (hr : f k = r)
    (hC : wpHead P ops S K' rest (a.put o.dst (.tuple #[secV (r.getD noughts), .bool r.isSome]))) : wpHead P ops S K' (o :: rest) a := by
  refine wpHead_step hg (fun w hw => ?_) hC
  have hrun := (h w hw).look w hK hM (A.zero w) hk true
  rw [hr] at hrun
  simp only [execOp, hop, hm, hx, Sem.run_bind, hrun, Result.andThen, Sem.run_pure, if_true]
def wpSeqS (P : Program) (ops : Array Oper) (Q : Exit → Act → World → Prop) (S : World → Prop) : List Oper → Act → World → Prop
  | [], a, w => Q .normal a w
  | o :: rest, a, w => if Region.wanted o (yielded ops a.tmps) then o.wp P a w (fun a' w' => S w' ∧ wpSeqS P ops Q S rest a' w') Q else (S w ∧ wpSeqS P ops Q S rest (a.put o.dst undef) w)
theorem wpSeqS_nil {a : Act} {w : World} (h : Q .normal a w) : wpSeqS P ops Q S [] a w := h
theorem wpSeqS_step {a : Act} {w : World} {o : Oper} {rest : List Oper} (hg : o.guard = none)
    (h : ∀ K : Act → World → Prop, Shut (∀ a w, S w → wpSeqS P ops Q S rest a w → K a w) → o.wp P a w K Q) : wpSeqS P ops Q S (o :: rest) a w := by
  unfold wpSeqS
  rw [if_pos (by simp [Region.wanted, hg])]
  exact h _ (fun _ _ h1 h2 => ⟨h1, h2⟩)

theorem wpSeqS_sec_alloc {T E : TypeId} (A : SecT P T E) {a : Act} {w : World} {o : Oper} {rest : List Oper} (hg : o.guard = none) (hop : o.op = Op.alloc T) (hS : S (w.alloc (.cells (u8s noughts).toArray T)))
    (hC : wpSeqS P ops Q S rest (a.put o.dst (.pointer (some ⟨w.heap.size, 0, none⟩))) (w.alloc (.cells (u8s noughts).toArray T))) : wpSeqS P ops Q S (o :: rest) a w := by
  refine wpSeqS_step hg fun K' hK' => ?_
  have hrun : (Instr.alloc T true (.tuple #[])).run P w = .ok (.pointer (some ⟨w.heap.size, 0, none⟩)) (w.alloc (.cells (u8s noughts).toArray T)) := by
    simp [Instr.alloc, A.zero, newVar, newRow, secV, Value.cells, Result.andThen]
  unfold Oper.wp
  simp only [execOp, hop, Sem.run_bind, hrun, Result.andThen, Sem.run_pure]
  exact hK'.out _ _ hS hC
theorem wpSeqS_sec_storeAt {T E : TypeId} (A : SecT P T E) {a : Act} {w : World} {o : Oper} {rest : List Oper} (hg : o.guard = none) (x v : Operand) (hop : o.op = Op.store T x v) (g : Nat) (hx : a.eval x = .pointer (some ⟨g, 0, none⟩)) (t : TypeId) (cs : Array Value) (h : Blk w g t cs) (hcs : cs.size = 512)
    (zs : List Int) (hv : a.eval v = secV zs) (hz : zs.length = 512) (hS : ∀ w', w.grownBy w' (some g) → S w')
    (hC : ∀ w', Blk w' g t (u8s zs).toArray → w.grownBy w' (some g) → w'.heap.size = w.heap.size → wpSeqS P ops Q S rest (a.put o.dst undef) w') : wpSeqS P ops Q S (o :: rest) a w := by
  refine wpSeqS_step hg fun K' hK' => ?_
  obtain ⟨w', hrun, r1, r2, r3⟩ := run_sec_store A h hcs hz
  unfold Oper.wp
  simp only [execOp, hop, hx, hv, Sem.run_bind, hrun, Result.andThen, Sem.run_pure]
  exact hK'.out _ _ (hS w' r2) (hC w' r1 r2 r3)

theorem wpAnyH_tail : ∀ (r : List Nat) (l : List Oper) (listed : Array Bool) (a : Act) (w : World), l = pickOps ops.toList r → (∀ i ∈ r, i < ops.size) → tailB md ops r listed = true → wpSeqS P ops Q S l a w → wpAnyH P md ops Q S r.length listed a w
  | [], l, listed, a, w, hl, _, hB, h => by
    subst hl
    exact ⟨by simpa [tailB] using hB, h⟩
  | k :: r, l, listed, a, w, hl, hi, hB, h => by
    simp only [tailB, Bool.and_eq_true, decide_eq_true_eq] at hB
    have hk : k < ops.size := hi k (by simp)
    have hok : ops[k]? = some ops[k] := Array.getElem?_eq_getElem hk
    have hl' : l = ops[k] :: pickOps ops.toList r := by
      rw [hl]
      simp only [pickOps]
      rw [List.filterMap_cons]
      have : ops.toList[k]? = some ops[k] := by simp
      rw [this]
    rw [hl'] at h
    refine wpAnyH_all hB.1 (by simp) (fun i hi' => ?_)
    have : i = k := by simpa using hi'
    subst this
    unfold wpOp
    rw [hok]
    show if Region.wanted ops[i] (yielded ops a.tmps) = true then _ else _
    unfold wpSeqS at h
    split
    · rename_i hw
      rw [if_pos hw] at h
      exact .inl (Oper.wp_mono (fun a' w' h' => ⟨h'.1, wpAnyH_tail r _ _ a' w' rfl (fun j hj => hi j (by simp [hj])) hB.2 h'.2⟩) h)
    · rename_i hw
      rw [if_neg hw] at h
      exact ⟨h.1, wpAnyH_tail r _ _ _ w rfl (fun j hj => hi j (by simp [hj])) hB.2 h.2⟩

theorem wpAnyH_head (hs : Region.noSelect ops = true) (hQ : ∀ c a d v w, Q (.panic c) (Act.put a (some d) v) w → Q (.panic c) a w) :
    ∀ (h r : List Nat) (l : List Oper) (listed : Array Bool) (a : Act) (w : World), l = pickOps ops.toList h → (∀ i ∈ h, i < ops.size) → (∀ i ∈ r, i < ops.size) → headB md ops h r listed = true → S w →
      wpHead P ops S (fun a' => wpSeqS P ops Q S (pickOps ops.toList r) a' w) l a → wpAnyH P md ops Q S (h.length + r.length) listed a w
  | [], r, l, listed, a, w, hl, _, hr, hB, _, hh => by
    subst hl
    simp only [List.length_nil, Nat.zero_add]
    exact wpAnyH_tail r _ listed a w rfl hr hB hh
  | i :: h, r, l, listed, a, w, hl, hi, hr, hB, hS, hh => by
    have hk : i < ops.size := hi i (by simp)
    have hok : ops[i]? = some ops[i] := Array.getElem?_eq_getElem hk
    have hl' : l = ops[i] :: pickOps ops.toList h := by
      rw [hl]
      simp only [pickOps]
      rw [List.filterMap_cons]
      have : ops.toList[i]? = some ops[i] := by simp
      rw [this]
    rw [hl'] at hh
    obtain ⟨v, hy, hh⟩ := hh
    have hB' : ((Region.ready md ops listed).contains i = true ∧ Region.free md ops listed i = true) ∧ headB md ops h r (listed.setIfInBounds i true) = true := by
      simpa only [headB, Bool.and_eq_true] using hB
    rw [show (i :: h).length + r.length = (h.length + r.length) + 1 by simp; omega]
    exact wpAnyH_take hok hs hB'.1.2 hB'.1.1 (fun c a w hp => by
      cases hd : ops[i].dst with
      | none => rw [hd] at hp; exact hp
      | some d => rw [hd] at hp; exact hQ c a d _ w hp) hy hS (wpAnyH_head hs hQ h r _ _ _ w rfl (fun j hj => hi j (by simp [hj])) hr hB'.2 hS hh)

/-- The whole check, for the kernel. -/
def regB (l : List Oper) (h r : List Nat) : Bool :=
  Region.noSelect l.toArray && (h ++ r).all (fun i => decide (i < l.toArray.size)) && decide (h.length + r.length = l.toArray.size) && headB .any l.toArray h r (Array.replicate l.toArray.size false)

theorem wp_region_order {id : Nat} {a : Act} {w : World} {l : List Oper} (S : World → Prop) (h r : List Nat) (hm : P.follows .mixedOrders = true) (hB : regB l h r = true)
    (hQ : ∀ c a d v w, Q (.panic c) (Act.put a (some d) v) w → Q (.panic c) a w) (hS : S w.drew)
    (hh : wpHead P l.toArray S (fun a' => wpSeqS P l.toArray Q S (pickOps l r) a' w.drew) (pickOps l h) a) : (Code.region id l.toArray true).wp P Q a w := by
  simp only [regB, Bool.and_eq_true, decide_eq_true_eq, List.all_eq_true, List.mem_append] at hB
  obtain ⟨⟨⟨h1, h2⟩, h3⟩, h4⟩ := hB
  refine wp_region_held (S := S) hm ?_
  rw [← h3]
  rw [show Array.replicate (h.length + r.length) false = Array.replicate l.toArray.size false by rw [h3]]
  exact wpAnyH_head h1 hQ h r _ _ a w.drew rfl (fun i hi => h2 i (.inl hi)) (fun i hi => h2 i (.inr hi)) h4 hS hh
end
end Go.Proofs.YtfheikmjjijdpaaDoor

