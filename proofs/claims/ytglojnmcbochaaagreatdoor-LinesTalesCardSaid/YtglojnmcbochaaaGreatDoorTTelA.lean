/-
  Answers in memory: lots, uses, an answer's cells; window.Right, lot.Right. Conditions: none but that texts are no longer than texts may be.
-/
import Derived.Test.YtglojnmcbochaaaGreatDoorTLnsP
import Derived.Test.YtglojnmcbochaaaGreatDoorTAskB
namespace Go.Proofs.YtglojnmcbochaaaGreatDoor
open Go.RowKit Go.Maps
set_option linter.unusedVariables false
set_option linter.unusedSimpArgs false

theorem flat_len {α : Type} (f : α → List Value) (q : Nat) (hf : ∀ x, (f x).length = q) (l : List α) : (l.flatMap f).length = l.length * q := by
  induction l with
  | nil => simp
  | cons x l ih => rw [List.flatMap_cons, List.length_append, hf, ih, List.length_cons, Nat.succ_mul]; omega
theorem flat_at {α : Type} (f : α → List Value) (q : Nat) (hf : ∀ x, (f x).length = q) (d : α) (l : List α) (i k : Nat) (hi : i < l.length) (hk : k < q) : (l.flatMap f)[i * q + k]? = (f (l.getD i d))[k]? := by
  induction l generalizing i with
  | nil => simp at hi
  | cons x l ih =>
    rw [List.flatMap_cons]
    cases i with
    | zero => rw [Nat.zero_mul, Nat.zero_add, List.getElem?_append_left (by rw [hf]; exact hk)]; rfl
    | succ i =>
      rw [List.getElem?_append_right (by rw [hf, Nat.succ_mul]; omega), hf, show (i + 1) * q + k - q = i * q + k by rw [Nat.succ_mul]; omega, ih i (by simpa using hi)]
      rfl
def LotV.zero : LotV := ⟨0, [], 0, 0, 0, false⟩
def UseV.zero : UseV := ⟨0, 0, 0⟩
def lot6 (x : LotV) : List Value := [.int .i64 x.id, strV x.item, .int .i64 x.frm, .int .i64 x.til, .int .i64 x.qty, .bool x.here]
def use3 (x : UseV) : List Value := [.int .i64 x.want, .int .i64 x.lot, .int .i64 x.qty]
def lotC (l : List LotV) : List Value := l.flatMap lot6
def useC (l : List UseV) : List Value := l.flatMap use3
theorem lotC_length (l : List LotV) : (lotC l).length = l.length * 6 := flat_len lot6 6 (fun _ => rfl) l
theorem useC_length (l : List UseV) : (useC l).length = l.length * 3 := flat_len use3 3 (fun _ => rfl) l
theorem lotC_append (a b : List LotV) : lotC (a ++ b) = lotC a ++ lotC b := by simp [lotC]
theorem useC_append (a b : List UseV) : useC (a ++ b) = useC a ++ useC b := by simp [useC]
theorem lotC_at (l : List LotV) (i k : Nat) (hi : i < l.length) (hk : k < 6) : (lotC l)[i * 6 + k]? = (lot6 (l.getD i LotV.zero))[k]? := flat_at lot6 6 (fun _ => rfl) _ l i k hi hk
theorem useC_at (l : List UseV) (i k : Nat) (hi : i < l.length) (hk : k < 3) : (useC l)[i * 3 + k]? = (use3 (l.getD i UseV.zero))[k]? := flat_at use3 3 (fun _ => rfl) _ l i k hi hk
theorem lotC_one (l : List LotV) : ∀ v ∈ lotC l, v.oneCell' = true := by
  intro v hv
  obtain ⟨p, _, hp⟩ := List.mem_flatMap.1 hv
  unfold lot6 at hp
  simp only [List.mem_cons, List.not_mem_nil, or_false] at hp
  rcases hp with rfl | rfl | rfl | rfl | rfl | rfl <;> rfl
theorem useC_one (l : List UseV) : ∀ v ∈ useC l, v.oneCell' = true := by
  intro v hv
  obtain ⟨p, _, hp⟩ := List.mem_flatMap.1 hv
  unfold use3 at hp
  simp only [List.mem_cons, List.not_mem_nil, or_false] at hp
  rcases hp with rfl | rfl | rfl <;> rfl
theorem lotsT : EltT Tryz.prog 39 60 6 56 (.agg #[.int .i64 0, .string ⟨#[]⟩, .int .i64 0, .int .i64 0, .int .i64 0, .bool false]) := ⟨Tryz.underlying39, by kernel_rfl, rfl, by omega⟩
theorem usesT : EltT Tryz.prog 40 64 3 24 (.agg #[.int .i64 0, .int .i64 0, .int .i64 0]) := ⟨Tryz.underlying40, by kernel_rfl, rfl, by omega⟩
/-- A slice of elements, each of q cells. -/
structure SlE (w : World) (q : Nat) (s : Sl) (vs : List Value) : Prop where
  cel : CelR w s.A (s.n * q) vs
  nil_ : s.A = none → s.n = 0 ∧ s.c = 0
  le : s.n ≤ s.c
  max : s.c ≤ maxLen
theorem SlE.turned {w w' : World} {W : Nat → Prop} {q : Nat} {s : Sl} {vs : List Value} (h : SlE w q s vs) (ht : Turned W w w') (hW : ∀ b o, s.A = some ⟨b, o, none⟩ → ¬ W b) : SlE w' q s vs := ⟨h.cel.turned ht hW, h.nil_, h.le, h.max⟩
theorem SlE.fresh {w w' : World} {q : Nat} {s : Sl} {vs : List Value} (h : SlE w q s vs) (ht : Turned (fun _ => False) w w') : SlE w' q s vs := h.turned ht (fun _ _ _ e => e)
theorem SlE.none_ (w : World) (q : Nat) : SlE w q ⟨none, 0, 0⟩ [] := ⟨by rw [Nat.zero_mul]; exact CelR.none_ w, fun _ => ⟨rfl, rfl⟩, Nat.le_refl _, Nat.zero_le _⟩
def SlL (w : World) (s : Sl) (l : List LotV) : Prop := SlE w 6 s (lotC l)
def SlU (w : World) (s : Sl) (l : List UseV) : Prop := SlE w 3 s (useC l)
theorem SlL.len {w : World} {s : Sl} {l : List LotV} (h : SlL w s l) : l.length = s.n := by
  have := h.cel.len
  rw [lotC_length] at this
  omega
theorem SlU.len {w : World} {s : Sl} {l : List UseV} (h : SlU w s l) : l.length = s.n := by
  have := h.cel.len
  rw [useC_length] at this
  omega
theorem SlL.cells {w : World} {s : Sl} {l : List LotV} (h : SlL w s l) (hn : 0 < s.n) : ∃ b off, s.A = some ⟨b, off, none⟩ ∧ ∀ i, i < s.n → w.cell? ⟨b, off + i * 6, none⟩ = some (.int .i64 (l.getD i LotV.zero).id) ∧ w.cell? ⟨b, off + i * 6 + 1, none⟩ = some (.string ⟨(l.getD i LotV.zero).item.toArray⟩) ∧ w.cell? ⟨b, off + i * 6 + 2, none⟩ = some (.int .i64 (l.getD i LotV.zero).frm) ∧ w.cell? ⟨b, off + i * 6 + 3, none⟩ = some (.int .i64 (l.getD i LotV.zero).til) ∧ w.cell? ⟨b, off + i * 6 + 4, none⟩ = some (.int .i64 (l.getD i LotV.zero).qty) ∧ w.cell? ⟨b, off + i * 6 + 5, none⟩ = some (.bool (l.getD i LotV.zero).here) := by
  obtain ⟨b, off, e, hc⟩ := h.cel.cell (by omega)
  have hl := h.len
  have hk : ∀ i, i < s.n → ∀ k, k < 6 → w.cell? ⟨b, off + i * 6 + k, none⟩ = (lot6 (l.getD i LotV.zero))[k]? := fun i hi k hk => by
    rw [Nat.add_assoc, hc (i * 6 + k) (by omega)]
    exact lotC_at l i k (by omega) hk
  exact ⟨b, off, e, fun i hi => ⟨hk i hi 0 (by omega), hk i hi 1 (by omega), hk i hi 2 (by omega), hk i hi 3 (by omega), hk i hi 4 (by omega), hk i hi 5 (by omega)⟩⟩
theorem SlU.cells {w : World} {s : Sl} {l : List UseV} (h : SlU w s l) (hn : 0 < s.n) : ∃ b off, s.A = some ⟨b, off, none⟩ ∧ ∀ i, i < s.n → w.cell? ⟨b, off + i * 3, none⟩ = some (.int .i64 (l.getD i UseV.zero).want) ∧ w.cell? ⟨b, off + i * 3 + 1, none⟩ = some (.int .i64 (l.getD i UseV.zero).lot) ∧ w.cell? ⟨b, off + i * 3 + 2, none⟩ = some (.int .i64 (l.getD i UseV.zero).qty) := by
  obtain ⟨b, off, e, hc⟩ := h.cel.cell (by omega)
  have hl := h.len
  have hk : ∀ i, i < s.n → ∀ k, k < 3 → w.cell? ⟨b, off + i * 3 + k, none⟩ = (use3 (l.getD i UseV.zero))[k]? := fun i hi k hk => by
    rw [Nat.add_assoc, hc (i * 3 + k) (by omega)]
    exact useC_at l i k (by omega) hk
  exact ⟨b, off, e, fun i hi => ⟨hk i hi 0 (by omega), hk i hi 1 (by omega), hk i hi 2 (by omega)⟩⟩
structure TellS where
  L : Sl
  U : Sl
/-- What an answer's slices hold. -/
structure TellIs (w : World) (t : TellV) (S : TellS) : Prop where
  lots : SlL w S.L t.lots
  uses : SlU w S.U t.uses
theorem TellIs.fresh {w w' : World} {t : TellV} {S : TellS} (h : TellIs w t S) (ht : Turned (fun _ => False) w w') : TellIs w' t S := ⟨SlE.fresh h.lots ht, SlE.fresh h.uses ht⟩
/-- An answer's cells. -/
def tellC (t : TellV) (S : TellS) : Array Value := #[.int .i64 t.err, .int .i64 t.id, .int .i64 t.day, strV t.code, .int .u8 t.state, .slice S.L.A S.L.n S.L.c, .slice S.U.A S.U.n S.U.c]
structure LotV.Ok (x : LotV) : Prop where
  id : I64 x.id
  item : strOk x.item
  frm : I64 x.frm
  til : I64 x.til
  qty : I64 x.qty
structure UseV.Ok (x : UseV) : Prop where
  want : I64 x.want
  lot : I64 x.lot
  qty : I64 x.qty
structure TellV.Ok (t : TellV) : Prop where
  err : I64 t.err
  id : I64 t.id
  day : I64 t.day
  code : strOk t.code
  state : isByte t.state
  lots : ∀ l ∈ t.lots, l.Ok
  uses : ∀ u ∈ t.uses, u.Ok
theorem Blk.cells7 {w : World} {g : Nat} {t : TypeId} {a0 a1 a2 a3 a4 a5 a6 : Value} (h : Blk w g t #[a0, a1, a2, a3, a4, a5, a6]) : w.cell? ⟨g, 0, none⟩ = some a0 ∧ w.cell? ⟨g, 1, none⟩ = some a1 ∧ w.cell? ⟨g, 2, none⟩ = some a2 ∧ w.cell? ⟨g, 3, none⟩ = some a3 ∧ w.cell? ⟨g, 4, none⟩ = some a4 ∧ w.cell? ⟨g, 5, none⟩ = some a5 ∧ w.cell? ⟨g, 6, none⟩ = some a6 :=
  ⟨h.cell 0, h.cell 1, h.cell 2, h.cell 3, h.cell 4, h.cell 5, h.cell 6⟩
theorem Blk.cells6 {w : World} {g : Nat} {t : TypeId} {a0 a1 a2 a3 a4 a5 : Value} (h : Blk w g t #[a0, a1, a2, a3, a4, a5]) : w.cell? ⟨g, 0, none⟩ = some a0 ∧ w.cell? ⟨g, 1, none⟩ = some a1 ∧ w.cell? ⟨g, 2, none⟩ = some a2 ∧ w.cell? ⟨g, 3, none⟩ = some a3 ∧ w.cell? ⟨g, 4, none⟩ = some a4 ∧ w.cell? ⟨g, 5, none⟩ = some a5 :=
  ⟨h.cell 0, h.cell 1, h.cell 2, h.cell 3, h.cell 4, h.cell 5⟩
/-! lot.Right -/
def winB (f t : Int) : Bool := decide (0 ≤ f) && (decide (f ≤ t) && decide (t ≤ 4001))
theorem window_right_any (f t : Int) (w : World) : Calls Tryz.prog 135 #[.agg #[.int .i64 f, .int .i64 t]] w (BoolNew (winB f t) w) := by
  by_cases h1 : 0 ≤ f
  · by_cases h2 : f ≤ t
    · go_enter Tryz.func135, Tryz.ntmps135
      go_wp2
      go_ret
      exact ⟨ret_bool (by simp [winB, h1, h2]), (Turned.refl _ w).alloc _⟩
    · go_enter Tryz.func135, Tryz.ntmps135
      go_wp2
      go_ret
      exact ⟨ret_bool (by simp [winB]; intros; omega), (Turned.refl _ w).alloc _⟩
  · go_enter Tryz.func135, Tryz.ntmps135
    go_wp2
    go_ret
    exact ⟨ret_bool (by simp [winB]; omega), (Turned.refl _ w).alloc _⟩
theorem lotB_eq (l : LotV) : lotB l = (decide (0 < l.id) && (codeL l.item && (winB l.frm l.til && (decide (l.frm < l.til) && (decide (0 < l.qty) && decide (l.qty ≤ 1073741824)))))) := by
  unfold lotB winB withinB
  rw [Bool.eq_iff_iff]
  simp only [Bool.and_eq_true, decide_eq_true_eq]
  constructor
  · rintro ⟨a, b, c, d, e, f⟩
    exact ⟨a, b, ⟨c, by omega, e⟩, d, by omega, by omega⟩
  · rintro ⟨a, b, ⟨c, _, e⟩, d, f, g⟩
    exact ⟨a, b, c, d, e, by omega, by omega⟩
set_option maxRecDepth 100000 in
set_option maxHeartbeats 1000000 in
theorem lot_right_any (id : Int) (item : List UInt8) (frm til qty : Int) (here : Bool) (w : World) (hs : strOk item) :
    Calls Tryz.prog 106 #[.agg #[.int .i64 id, .string ⟨item.toArray⟩, .int .i64 frm, .int .i64 til, .int .i64 qty, .bool here]] w (BoolNew (lotB ⟨id, item, frm, til, qty, here⟩) w) := by
  have hcode := Lib.hid (fun W => code_right_any item W hs)
  unfold strV at hcode
  have hB := Lib.hid (lotB_eq ⟨id, item, frm, til, qty, here⟩)
  have B0 := Lib.hid (Blk.new w 60 #[.int .i64 id, .string ⟨item.toArray⟩, .int .i64 frm, .int .i64 til, .int .i64 qty, .bool here])
  have T0 := Lib.hid ((Turned.refl (fun _ => False) w).alloc (.cells #[.int .i64 id, .string ⟨item.toArray⟩, .int .i64 frm, .int .i64 til, .int .i64 qty, .bool here] 60))
  by_cases h1 : 0 < id
  · go_enter Tryz.func106, Tryz.ntmps106
    go_wp2_with fail
    refine (hcode.out _).mono ?_
    rintro e w1 ⟨rfl, t1⟩
    have T1 := Lib.hid (T0.out.and_ t1)
    obtain ⟨x0, x1, x2, x3, x4, x5⟩ := (B0.out.turned t1 (fun e => e)).cells6
    have B1 := Lib.hid (B0.out.turned t1 (fun e => e))
    clear t1 hcode T0 B0
    cases hc : codeL item with
    | false =>
      have hc' := Lib.hid hc
      clear hc
      go_wp2_with fail
      go_ret
      exact ⟨ret_bool (by rw [hB.out]; simp [hc'.out]), T1.out⟩
    | true =>
      have hc' := Lib.hid hc
      clear hc
      go_wp2_with fail
      refine (window_right_any frm til _).mono ?_
      rintro e w2 ⟨rfl, t2⟩
      have T2 := Lib.hid (T1.out.and_ t2)
      clear x0 x1 x2 x3 x4 x5
      obtain ⟨x0, x1, x2, x3, x4, x5⟩ := (B1.out.turned t2 (fun e => e)).cells6
      clear t2 T1 B1
      cases hw : winB frm til with
      | false =>
        have hw' := Lib.hid hw
        clear hw
        go_wp2_with fail
        go_ret
        exact ⟨ret_bool (by rw [hB.out]; simp [hw'.out]), T2.out⟩
      | true =>
        have hw' := Lib.hid hw
        clear hw
        by_cases h3 : frm < til
        · by_cases h4 : 0 < qty
          · go_wp2_with fail
            go_ret
            exact ⟨ret_bool (by rw [hB.out]; simp [hw'.out, hc'.out, h1, h3, h4]), T2.out⟩
          · go_wp2_with fail
            go_ret
            exact ⟨ret_bool (by rw [hB.out]; simp; intros; omega), T2.out⟩
        · go_wp2_with fail
          go_ret
          exact ⟨ret_bool (by rw [hB.out]; simp; intros; omega), T2.out⟩
  · go_enter Tryz.func106, Tryz.ntmps106
    go_wp2_with fail
    go_ret
    exact ⟨ret_bool (by rw [hB.out]; simp; intros; omega), T0.out⟩
end Go.Proofs.YtglojnmcbochaaaGreatDoor

