/-
 ytglojnmcbochaaagreatdoor: laws and walks on the road to LinesNumbers, joined: TelA TelB. Conditions stand at each theorem.
-/
import Derived.Test.YtglojnmcbochaaaGreatDoorULnsP
import Derived.Test.YtglojnmcbochaaaGreatDoorUAskB
namespace Go.Proofs.YtglojnmcbochaaaGreatDoor
open Go.RowKit Go.Maps
set_option linter.unusedVariables false
set_option linter.unusedSimpArgs false

theorem flat_len {α : Type} (f : α → List Value) (q : Nat) (hf : ∀ x, (f x).length = q) (l : List α) : (l.flatMap f).length = l.length * q := by
 induction l with
 | nil => simp
 | cons x l ih => rw [List.flatMap_cons, List.length_append, hf, ih, List.length_cons, Nat.succ_mul]; omega
theorem flat_at {α : Type} (f : α → List Value) (q : Nat) (hf : ∀ x, (f x).length = q) (d : α) (l : List α) (i k : Nat) (hi : i < l.length) (hk : k < q) : (l.flatMap f)[i * q + k]? = (f (l.getD i d))[k]? := by
 induction l generalizing i with
 | nil => simp at hi
 | cons x l ih =>
  rw [List.flatMap_cons]
  cases i with
  | zero => rw [Nat.zero_mul, Nat.zero_add, List.getElem?_append_left (by rw [hf]; exact hk)]; rfl
  | succ i =>
   rw [List.getElem?_append_right (by rw [hf, Nat.succ_mul]; omega), hf, show (i + 1) * q + k - q = i * q + k by rw [Nat.succ_mul]; omega, ih i (by simpa using hi)]
   rfl
def LotV.zero : LotV := ⟨0, [], 0, 0, 0, false⟩
def UseV.zero : UseV := ⟨0, 0, 0⟩
def lot6 (x : LotV) : List Value := [.int .i64 x.id, strV x.item, .int .i64 x.frm, .int .i64 x.til, .int .i64 x.qty, .bool x.here]
def use3 (x : UseV) : List Value := [.int .i64 x.want, .int .i64 x.lot, .int .i64 x.qty]
def lotC (l : List LotV) : List Value := l.flatMap lot6
def useC (l : List UseV) : List Value := l.flatMap use3
theorem lotC_length (l : List LotV) : (lotC l).length = l.length * 6 := flat_len lot6 6 (fun _ => rfl) l
theorem useC_length (l : List UseV) : (useC l).length = l.length * 3 := flat_len use3 3 (fun _ => rfl) l
theorem lotC_append (a b : List LotV) : lotC (a ++ b) = lotC a ++ lotC b := by simp [lotC]
theorem useC_append (a b : List UseV) : useC (a ++ b) = useC a ++ useC b := by simp [useC]
theorem lotC_at (l : List LotV) (i k : Nat) (hi : i < l.length) (hk : k < 6) : (lotC l)[i * 6 + k]? = (lot6 (l.getD i LotV.zero))[k]? := flat_at lot6 6 (fun _ => rfl) _ l i k hi hk
theorem useC_at (l : List UseV) (i k : Nat) (hi : i < l.length) (hk : k < 3) : (useC l)[i * 3 + k]? = (use3 (l.getD i UseV.zero))[k]? := flat_at use3 3 (fun _ => rfl) _ l i k hi hk
theorem lotC_one (l : List LotV) : ∀ v ∈ lotC l, v.oneCell' = true := by
 intro v hv
 obtain ⟨p, _, hp⟩ := List.mem_flatMap.1 hv
 unfold lot6 at hp
 simp only [List.mem_cons, List.not_mem_nil, or_false] at hp
 rcases hp with rfl | rfl | rfl | rfl | rfl | rfl <;> rfl
theorem useC_one (l : List UseV) : ∀ v ∈ useC l, v.oneCell' = true := by
 intro v hv
 obtain ⟨p, _, hp⟩ := List.mem_flatMap.1 hv
 unfold use3 at hp
 simp only [List.mem_cons, List.not_mem_nil, or_false] at hp
 rcases hp with rfl | rfl | rfl <;> rfl
theorem lotsT : EltT Tryz.prog 39 60 6 56 (.agg #[.int .i64 0, .string ⟨#[]⟩, .int .i64 0, .int .i64 0, .int .i64 0, .bool false]) := ⟨Tryz.underlying39, by kernel_rfl, rfl, by omega⟩
theorem usesT : EltT Tryz.prog 40 64 3 24 (.agg #[.int .i64 0, .int .i64 0, .int .i64 0]) := ⟨Tryz.underlying40, by kernel_rfl, rfl, by omega⟩
structure SlE (w : World) (q : Nat) (s : Sl) (vs : List Value) : Prop where
 cel : CelR w s.A (s.n * q) vs
 nil_ : s.A = none → s.n = 0 ∧ s.c = 0
 le : s.n ≤ s.c
 max : s.c ≤ maxLen
theorem SlE.turned {w w' : World} {W : Nat → Prop} {q : Nat} {s : Sl} {vs : List Value} (h : SlE w q s vs) (ht : Turned W w w') (hW : ∀ b o, s.A = some ⟨b, o, none⟩ → ¬ W b) : SlE w' q s vs := ⟨h.cel.turned ht hW, h.nil_, h.le, h.max⟩
theorem SlE.fresh {w w' : World} {q : Nat} {s : Sl} {vs : List Value} (h : SlE w q s vs) (ht : Turned (fun _ => False) w w') : SlE w' q s vs := h.turned ht (fun _ _ _ e => e)
theorem SlE.none_ (w : World) (q : Nat) : SlE w q ⟨none, 0, 0⟩ [] := ⟨by rw [Nat.zero_mul]; exact CelR.none_ w, fun _ => ⟨rfl, rfl⟩, Nat.le_refl _, Nat.zero_le _⟩
def SlL (w : World) (s : Sl) (l : List LotV) : Prop := SlE w 6 s (lotC l)
def SlU (w : World) (s : Sl) (l : List UseV) : Prop := SlE w 3 s (useC l)
theorem SlL.len {w : World} {s : Sl} {l : List LotV} (h : SlL w s l) : l.length = s.n := by
 have := h.cel.len
 rw [lotC_length] at this
 omega
theorem SlU.len {w : World} {s : Sl} {l : List UseV} (h : SlU w s l) : l.length = s.n := by
 have := h.cel.len
 rw [useC_length] at this
 omega
theorem SlL.cells {w : World} {s : Sl} {l : List LotV} (h : SlL w s l) (hn : 0 < s.n) : ∃ b off, s.A = some ⟨b, off, none⟩ ∧ ∀ i, i < s.n → w.cell? ⟨b, off + i * 6, none⟩ = some (.int .i64 (l.getD i LotV.zero).id) ∧ w.cell? ⟨b, off + i * 6 + 1, none⟩ = some (.string ⟨(l.getD i LotV.zero).item.toArray⟩) ∧ w.cell? ⟨b, off + i * 6 + 2, none⟩ = some (.int .i64 (l.getD i LotV.zero).frm) ∧ w.cell? ⟨b, off + i * 6 + 3, none⟩ = some (.int .i64 (l.getD i LotV.zero).til) ∧ w.cell? ⟨b, off + i * 6 + 4, none⟩ = some (.int .i64 (l.getD i LotV.zero).qty) ∧ w.cell? ⟨b, off + i * 6 + 5, none⟩ = some (.bool (l.getD i LotV.zero).here) := by
 obtain ⟨b, off, e, hc⟩ := h.cel.cell (by omega)
 have hl := h.len
 have hk : ∀ i, i < s.n → ∀ k, k < 6 → w.cell? ⟨b, off + i * 6 + k, none⟩ = (lot6 (l.getD i LotV.zero))[k]? := fun i hi k hk => by
  rw [Nat.add_assoc, hc (i * 6 + k) (by omega)]
  exact lotC_at l i k (by omega) hk
 exact ⟨b, off, e, fun i hi => ⟨hk i hi 0 (by omega), hk i hi 1 (by omega), hk i hi 2 (by omega), hk i hi 3 (by omega), hk i hi 4 (by omega), hk i hi 5 (by omega)⟩⟩
theorem SlU.cells {w : World} {s : Sl} {l : List UseV} (h : SlU w s l) (hn : 0 < s.n) : ∃ b off, s.A = some ⟨b, off, none⟩ ∧ ∀ i, i < s.n → w.cell? ⟨b, off + i * 3, none⟩ = some (.int .i64 (l.getD i UseV.zero).want) ∧ w.cell? ⟨b, off + i * 3 + 1, none⟩ = some (.int .i64 (l.getD i UseV.zero).lot) ∧ w.cell? ⟨b, off + i * 3 + 2, none⟩ = some (.int .i64 (l.getD i UseV.zero).qty) := by
 obtain ⟨b, off, e, hc⟩ := h.cel.cell (by omega)
 have hl := h.len
 have hk : ∀ i, i < s.n → ∀ k, k < 3 → w.cell? ⟨b, off + i * 3 + k, none⟩ = (use3 (l.getD i UseV.zero))[k]? := fun i hi k hk => by
  rw [Nat.add_assoc, hc (i * 3 + k) (by omega)]
  exact useC_at l i k (by omega) hk
 exact ⟨b, off, e, fun i hi => ⟨hk i hi 0 (by omega), hk i hi 1 (by omega), hk i hi 2 (by omega)⟩⟩
structure TellS where
 L : Sl
 U : Sl
structure TellIs (w : World) (t : TellV) (S : TellS) : Prop where
 lots : SlL w S.L t.lots
 uses : SlU w S.U t.uses
theorem TellIs.fresh {w w' : World} {t : TellV} {S : TellS} (h : TellIs w t S) (ht : Turned (fun _ => False) w w') : TellIs w' t S := ⟨SlE.fresh h.lots ht, SlE.fresh h.uses ht⟩
def tellC (t : TellV) (S : TellS) : Array Value := #[.int .i64 t.err, .int .i64 t.id, .int .i64 t.day, strV t.code, .int .u8 t.state, .slice S.L.A S.L.n S.L.c, .slice S.U.A S.U.n S.U.c]
structure LotV.Ok (x : LotV) : Prop where
 id : I64 x.id
 item : strOk x.item
 frm : I64 x.frm
 til : I64 x.til
 qty : I64 x.qty
structure UseV.Ok (x : UseV) : Prop where
 want : I64 x.want
 lot : I64 x.lot
 qty : I64 x.qty
structure TellV.Ok (t : TellV) : Prop where
 err : I64 t.err
 id : I64 t.id
 day : I64 t.day
 code : strOk t.code
 state : isByte t.state
 lots : ∀ l ∈ t.lots, l.Ok
 uses : ∀ u ∈ t.uses, u.Ok
theorem Blk.cells7 {w : World} {g : Nat} {t : TypeId} {a0 a1 a2 a3 a4 a5 a6 : Value} (h : Blk w g t #[a0, a1, a2, a3, a4, a5, a6]) : w.cell? ⟨g, 0, none⟩ = some a0 ∧ w.cell? ⟨g, 1, none⟩ = some a1 ∧ w.cell? ⟨g, 2, none⟩ = some a2 ∧ w.cell? ⟨g, 3, none⟩ = some a3 ∧ w.cell? ⟨g, 4, none⟩ = some a4 ∧ w.cell? ⟨g, 5, none⟩ = some a5 ∧ w.cell? ⟨g, 6, none⟩ = some a6 :=
 ⟨h.cell 0, h.cell 1, h.cell 2, h.cell 3, h.cell 4, h.cell 5, h.cell 6⟩
theorem Blk.cells6 {w : World} {g : Nat} {t : TypeId} {a0 a1 a2 a3 a4 a5 : Value} (h : Blk w g t #[a0, a1, a2, a3, a4, a5]) : w.cell? ⟨g, 0, none⟩ = some a0 ∧ w.cell? ⟨g, 1, none⟩ = some a1 ∧ w.cell? ⟨g, 2, none⟩ = some a2 ∧ w.cell? ⟨g, 3, none⟩ = some a3 ∧ w.cell? ⟨g, 4, none⟩ = some a4 ∧ w.cell? ⟨g, 5, none⟩ = some a5 :=
 ⟨h.cell 0, h.cell 1, h.cell 2, h.cell 3, h.cell 4, h.cell 5⟩
/-! lot.Right -/
def winB (f t : Int) : Bool := decide (0 ≤ f) && (decide (f ≤ t) && decide (t ≤ 4001))
theorem window_right_any (f t : Int) (w : World) : Calls Tryz.prog 135 #[.agg #[.int .i64 f, .int .i64 t]] w (BoolNew (winB f t) w) := by
 by_cases h1 : 0 ≤ f
 ·by_cases h2 : f ≤ t
  ·go_enter Tryz.func135, Tryz.ntmps135
   go_wp2
   go_ret
   exact ⟨ret_bool (by simp [winB, h1, h2]), (Turned.refl _ w).alloc _⟩
  ·go_enter Tryz.func135, Tryz.ntmps135
   go_wp2
   go_ret
   exact ⟨ret_bool (by simp [winB]; intros; omega), (Turned.refl _ w).alloc _⟩
 ·go_enter Tryz.func135, Tryz.ntmps135
  go_wp2
  go_ret
  exact ⟨ret_bool (by simp [winB]; omega), (Turned.refl _ w).alloc _⟩
theorem lotB_eq (l : LotV) : lotB l = (decide (0 < l.id) && (codeL l.item && (winB l.frm l.til && (decide (l.frm < l.til) && (decide (0 < l.qty) && decide (l.qty ≤ 1073741824)))))) := by
 unfold lotB winB withinB
 rw [Bool.eq_iff_iff]
 simp only [zD, zE]
 constructor
 ·rintro ⟨a, b, c, d, e, f⟩
  exact ⟨a, b, ⟨c, by omega, e⟩, d, by omega, by omega⟩
 ·rintro ⟨a, b, ⟨c, _, e⟩, d, f, g⟩
  exact ⟨a, b, c, d, e, by omega, by omega⟩
set_option maxRecDepth 100000 in
set_option maxHeartbeats 1000000 in
theorem lot_right_any (id : Int) (item : List UInt8) (frm til qty : Int) (here : Bool) (w : World) (hs : strOk item) :
  Calls Tryz.prog 106 #[.agg #[.int .i64 id, .string ⟨item.toArray⟩, .int .i64 frm, .int .i64 til, .int .i64 qty, .bool here]] w (BoolNew (lotB ⟨id, item, frm, til, qty, here⟩) w) := by
 have hcode := hZ (fun W => code_right_any item W hs)
 unfold strV at hcode
 have hB := hZ (lotB_eq ⟨id, item, frm, til, qty, here⟩)
 have B0 := hZ (Blk.new w 60 #[.int .i64 id, .string ⟨item.toArray⟩, .int .i64 frm, .int .i64 til, .int .i64 qty, .bool here])
 have T0 := hZ ((Turned.refl (fun _ => False) w).alloc (.cells #[.int .i64 id, .string ⟨item.toArray⟩, .int .i64 frm, .int .i64 til, .int .i64 qty, .bool here] 60))
 by_cases h1 : 0 < id
 ·go_enter Tryz.func106, Tryz.ntmps106
  go_wp2_with fail
  refine (hcode.out _).mono ?_
  rintro e w1 ⟨rfl, t1⟩
  have T1 := hZ (T0.out.and_ t1)
  obtain ⟨x0, x1, x2, x3, x4, x5⟩ := (B0.out.turned t1 (fun e => e)).cells6
  have B1 := hZ (B0.out.turned t1 (fun e => e))
  clear t1 hcode T0 B0
  cases hc : codeL item with
  | false =>
   have hc' := hZ hc
   clear hc
   go_wp2_with fail
   go_ret
   exact ⟨ret_bool (by rw [hB.out]; simp [hc'.out]), T1.out⟩
  | true =>
   have hc' := hZ hc
   clear hc
   go_wp2_with fail
   refine (window_right_any frm til _).mono ?_
   rintro e w2 ⟨rfl, t2⟩
   have T2 := hZ (T1.out.and_ t2)
   clear x0 x1 x2 x3 x4 x5
   obtain ⟨x0, x1, x2, x3, x4, x5⟩ := (B1.out.turned t2 (fun e => e)).cells6
   clear t2 T1 B1
   cases hw : winB frm til with
   | false =>
    have hw' := hZ hw
    clear hw
    go_wp2_with fail
    go_ret
    exact ⟨ret_bool (by rw [hB.out]; simp [hw'.out]), T2.out⟩
   | true =>
    have hw' := hZ hw
    clear hw
    by_cases h3 : frm < til
    ·by_cases h4 : 0 < qty
     ·go_wp2_with fail
      go_ret
      exact ⟨ret_bool (by rw [hB.out]; simp [hw'.out, hc'.out, h1, h3, h4]), T2.out⟩
     ·go_wp2_with fail
      go_ret
      exact ⟨ret_bool (by rw [hB.out]; simp; intros; omega), T2.out⟩
    ·go_wp2_with fail
     go_ret
     exact ⟨ret_bool (by rw [hB.out]; simp; intros; omega), T2.out⟩
 ·go_enter Tryz.func106, Tryz.ntmps106
  go_wp2_with fail
  go_ret
  exact ⟨ret_bool (by rw [hB.out]; simp; intros; omega), T0.out⟩
end Go.Proofs.YtglojnmcbochaaaGreatDoor

namespace Go.Proofs.YtglojnmcbochaaaGreatDoor
open Go.RowKit Go.Maps
set_option linter.unusedVariables false
set_option linter.unusedSimpArgs false

def wrongT (t : TellV) : Bool := decide (t.id < 0) || (decide (t.day < -1) || (decide (4000 < t.day) || ((!decide (t.code = []) && !codeL t.code) || (decide (3 < t.state) || (decide (300 < t.lots.length) || decide (2000 < t.uses.length))))))
theorem rightT_eq (t : TellV) (hid : t.id ≤ 9223372036854775807) : rightT t = (if t.err < 0 ∨ 999 < t.err then false else if 0 < t.err then bareT t else if wrongT t then false else (t.lots.all lotB && t.uses.all useB)) := by
 unfold rightT
 by_cases h1 : t.err < 0 ∨ 999 < t.err
 ·rw [if_pos h1, if_pos h1]
 ·rw [if_neg h1, if_neg h1]
  by_cases h2 : t.err = 0
  ·rw [if_neg (by omega), if_neg (by omega)]
   unfold wrongT withinB
   rw [Bool.eq_iff_iff]
   cases hc : codeL t.code <;> cases hl : t.lots.all lotB <;> cases hu : t.uses.all useB <;> by_cases he : t.code = [] <;> simp [he] <;> intros <;> omega
  ·rw [if_pos h2, if_pos (by omega)]
theorem all_take {α : Type} (p : α → Bool) (l : List α) (d : α) (j : Nat) (hj : j < l.length) : (l.take (j + 1)).all p = ((l.take j).all p && p (l.getD j d)) := by
 rw [List.take_succ_eq_append_getElem hj, List.all_append]
 simp [List.getD_eq_getElem?_getD, hj]
theorem all_no {α : Type} (p : α → Bool) (l : List α) (d : α) (j : Nat) (hj : j < l.length) (h : p (l.getD j d) = false) : l.all p = false := by
 cases hu : l.all p with
 | false => rfl
 | true =>
  rw [List.all_eq_true] at hu
  have := hu (l.getD j d) (by rw [List.getD_eq_getElem?_getD, List.getElem?_eq_getElem hj]; exact List.getElem_mem hj)
  rw [h] at this
  cases this
theorem wrap_zero (a b : Nat) (ha : a ≤ 9223372036854775807) (hb : b ≤ 9223372036854775807) : wrap64 ((a : Int) + (b : Int)) = 0 ↔ a + b = 0 := by
 unfold wrap64
 omega
def TrRel (n : Nat) (w : World) (b : Nat) (cs : Array Value) (P : Nat → Prop) (i : Value) (wr : World) : Prop := ∃ j : Nat, j ≤ n ∧ i = .int .i64 j ∧ P j ∧ Blk wr b 42 cs ∧ Turned (fun _ => False) w wr
set_option maxRecDepth 100000 in
set_option maxHeartbeats 4000000 in
theorem tell_right_any (t : TellV) (S : TellS) (w : World) (h : TellIs w t S) (hok : t.Ok) : Calls Tryz.prog 78 #[.agg (tellC t S)] w (BoolNew (rightT t) w) := by
 have hR := rightT_eq t (by have := hok.id; unfold I64 at this; omega)
 have hcode := hZ (fun W => code_right_any t.code W hok.code)
 unfold strV at hcode
 have hl1 := SlL.len h.lots
 have hl2 := SlU.len h.uses
 have hb1 := Nat.le_trans h.lots.le h.lots.max
 have hb2 := Nat.le_trans h.uses.le h.uses.max
 unfold maxLen at hb1 hb2
 have hLk := hok.lots
 have hst := hok.state
 have hid := hok.id
 have hdy := hok.day
 unfold isByte at hst
 unfold I64 at hid hdy
 obtain ⟨er, id, dy, cd, st, lots, uses⟩ := t
 obtain ⟨⟨LA, Ln, Lc⟩, ⟨UA, Un, Uc⟩⟩ := S
 simp only at hR hcode hl1 hl2 hb1 hb2 hLk hst hid hdy
 have hL := hZ h.lots
 have hU := hZ h.uses
 have hLk' := hZ hLk
 have hR' := hZ hR
 have hl1' := hZ hl1
 have hl2' := hZ hl2
 clear h hok hl1 hl2 hLk hR
 unfold tellC strV
 simp only
 have hsl0 : (⟨cd.toArray⟩ : ByteArray).toList = cd := by rw [ByteArray.toList_eq]
 generalize (⟨cd.toArray⟩ : ByteArray) = str at *
 have hsl := hZ hsl0
 clear hsl0
 go_enter Tryz.func78, Tryz.ntmps78
 go_upto_region 1 with fail
 have T0 := hZ ((Turned.refl (fun _ => False) w).alloc (.cells #[.int .i64 er, .int .i64 id, .int .i64 dy, .string str, .int .u8 st, .slice LA Ln Lc, .slice UA Un Uc] 42))
 have B0 := hZ (Blk.new w 42 #[.int .i64 er, .int .i64 id, .int .i64 dy, .string str, .int .u8 st, .slice LA Ln Lc, .slice UA Un Uc])
 obtain ⟨W1, hW1⟩ : ∃ W1, W1 = w.alloc (.cells #[.int .i64 er, .int .i64 id, .int .i64 dy, .string str, .int .u8 st, .slice LA Ln Lc, .slice UA Un Uc] 42) := ⟨_, rfl⟩
 rw [← hW1] at T0 B0 ⊢
 clear hW1
 obtain ⟨b1, hb⟩ : ∃ b1, w.heap.size = b1 := ⟨_, rfl⟩
 rw [hb] at B0 ⊢
 clear hb
 obtain ⟨x0, x1, x2, x3, x4, x5, x6⟩ := B0.out.cells7
 go_cut [3] from 8 to 35 (fun u3 wc => u3 = .bool (bareT ⟨er, id, dy, cd, st, lots, uses⟩) ∧ wc = W1)
 case first =>
  by_cases h1 : id = 0
  ·have e1 : (id == 0) = true := by rw [h1]; rfl
   have h1' := hZ h1
   clear h1
   by_cases h2 : dy = 0
   ·have e2 : (dy == 0) = true := by rw [h2]; rfl
    have h2' := hZ h2
    clear h2
    by_cases h3 : cd = []
    ·have e3 : str.toList = [] := by rw [hsl.out, h3]
     have e4 : str.toList.isEmpty = true := by rw [e3]; rfl
     have h3' := hZ h3
     clear h3
     by_cases h4 : st = 0
     ·have e5 : (st == 0) = true := by rw [h4]; rfl
      have h4' := hZ h4
      clear h4
      go_wp2_with fail
      go_meet
      refine ⟨congrArg Value.bool ?_, rfl⟩
      unfold bareT
      rw [h1'.out, h2'.out, h3'.out, h4'.out]
      have hz := wrap_zero Ln Un (by omega) (by omega)
      have g1 : (lots = []) ↔ Ln = 0 := by rw [← hl1'.out]; exact List.length_eq_zero_iff.symm
      have g2 : (uses = []) ↔ Un = 0 := by rw [← hl2'.out]; exact List.length_eq_zero_iff.symm
      rw [Bool.eq_iff_iff]
      simp only [beq_iff_eq, zD, zE, g1, g2, hz, true_and]
      omega
     ·have e5 : (st == 0) = false := beq_eq_false_iff_ne.2 h4
      go_wp2_with fail
      go_meet
      exact ⟨by unfold bareT; simp [h4], rfl⟩
    ·have e3 : str.toList ≠ [] := by rw [hsl.out]; exact h3
     have e4 : str.toList.isEmpty = false := by rw [hsl.out]; cases cd with | nil => exact absurd rfl h3 | cons a l => rfl
     have h3' := hZ h3
     clear h3
     go_wp2_with fail
     go_meet
     exact ⟨by unfold bareT; simp [h3'.out], rfl⟩
   ·have e2 : (dy == 0) = false := beq_eq_false_iff_ne.2 h2
    go_wp2_with fail
    go_meet
    exact ⟨by unfold bareT; simp [h2], rfl⟩
  ·have e1 : (id == 0) = false := beq_eq_false_iff_ne.2 h1
   go_wp2_with fail
   go_meet
   exact ⟨by unfold bareT; simp [h1], rfl⟩
 case rest =>
  obtain ⟨rfl, rfl⟩ := hcut
  generalize bareT ⟨er, id, dy, cd, st, lots, uses⟩ = bare at *
  have hw := hZ (show wrongT ⟨er, id, dy, cd, st, lots, uses⟩ = (decide (id < 0) || (decide (dy < -1) || (decide (4000 < dy) || ((!decide (cd = []) && !codeL cd) || (decide (3 < st) || (decide (300 < Ln) || decide (2000 < Un))))))) from by unfold wrongT; rw [hl1'.out, hl2'.out])
  generalize wrongT ⟨er, id, dy, cd, st, lots, uses⟩ = wrg at *
  by_cases k1 : er < 0
  ·go_wp2_with fail
   go_ret
   exact ⟨ret_bool (by rw [hR'.out, if_pos (.inl k1)]), T0.out⟩
  by_cases k2 : 999 < er
  ·go_wp2_with fail
   go_ret
   exact ⟨ret_bool (by rw [hR'.out, if_pos (.inr k2)]), T0.out⟩
  have hR2 := hZ (show rightT ⟨er, id, dy, cd, st, lots, uses⟩ = (if 0 < er then bare else if wrg then false else (lots.all lotB && uses.all useB)) from by rw [hR'.out, if_neg (by omega)])
  clear hR'
  by_cases k3 : 0 < er
  ·go_wp2_with fail
   go_ret
   exact ⟨ret_bool (by rw [hR2.out, if_pos k3]), T0.out⟩
  have hR3 := hZ (show rightT ⟨er, id, dy, cd, st, lots, uses⟩ = (if wrg then false else (lots.all lotB && uses.all useB)) from by rw [hR2.out, if_neg k3])
  clear hR2
  go_upto_region 6 with fail
  go_cut [50] from 51 to 91 (fun u50 wd => u50 = .bool wrg ∧ Blk wd b1 42 #[.int .i64 er, .int .i64 id, .int .i64 dy, .string str, .int .u8 st, .slice LA Ln Lc, .slice UA Un Uc] ∧ Turned (fun _ => False) w wd)
  case first =>
   by_cases h1 : id < 0
   ·go_wp2_with fail
    go_meet
    exact ⟨congrArg Value.bool (by rw [hw.out]; simp [h1]), B0.out, T0.out⟩
   by_cases h2 : dy < -1
   ·go_wp2_with fail
    go_meet
    exact ⟨congrArg Value.bool (by rw [hw.out]; simp [h2]), B0.out, T0.out⟩
   by_cases h3 : 4000 < dy
   ·go_wp2_with fail
    go_meet
    exact ⟨congrArg Value.bool (by rw [hw.out]; simp [h3]), B0.out, T0.out⟩
   by_cases h4 : cd = []
   ·have e3 : str.toList = [] := by rw [hsl.out, h4]
    have e4 : str.toList.isEmpty = true := by rw [e3]; rfl
    have h4' := hZ h4
    clear h4
    by_cases h5 : 3 < st
    ·go_wp2_with fail
     go_meet
     exact ⟨congrArg Value.bool (by rw [hw.out]; simp [h5]), B0.out, T0.out⟩
    ·by_cases h6 : 300 < Ln
     ·have h6i : (300 : Int) < (Ln : Int) := by omega
      go_wp2_with fail
      go_meet
      exact ⟨congrArg Value.bool (by rw [hw.out]; simp [h6]), B0.out, T0.out⟩
     ·have h6i : ¬ (300 : Int) < (Ln : Int) := by omega
      by_cases h7 : 2000 < Un
      ·have h7i : (2000 : Int) < (Un : Int) := by omega
       go_wp2_with fail
       go_meet
       exact ⟨congrArg Value.bool (by rw [hw.out]; simp [h7]), B0.out, T0.out⟩
      ·have h7i : ¬ (2000 : Int) < (Un : Int) := by omega
       go_wp2_with fail
       go_meet
       exact ⟨congrArg Value.bool (by rw [hw.out]; simp [h1, h2, h3, h5, h6, h7, h4'.out]), B0.out, T0.out⟩
   ·have e3 : str.toList ≠ [] := by rw [hsl.out]; exact h4
    have e4 : str.toList.isEmpty = false := by rw [hsl.out]; cases cd with | nil => exact absurd rfl h4 | cons a l => rfl
    have h4' := hZ h4
    clear h4
    go_wp2_with fail
    refine (hcode.out _).mono ?_
    rintro e w1 ⟨rfl, t1⟩
    have T1 := hZ (T0.out.and_ t1)
    have B1 := hZ (B0.out.turned t1 (fun e => e))
    clear x0 x1 x2 x3 x4 x5 x6 t1 T0 B0 hcode
    obtain ⟨x0, x1, x2, x3, x4, x5, x6⟩ := B1.out.cells7
    cases hc : codeL cd with
    | false =>
     have hc' := hZ hc
     clear hc
     go_wp2_with fail
     go_meet
     exact ⟨congrArg Value.bool (by rw [hw.out]; simp [h4'.out, hc'.out]), B1.out, T1.out⟩
    | true =>
     have hc' := hZ hc
     clear hc
     by_cases h5 : 3 < st
     ·go_wp2_with fail
      go_meet
      exact ⟨congrArg Value.bool (by rw [hw.out]; simp [h5]), B1.out, T1.out⟩
     ·by_cases h6 : 300 < Ln
      ·have h6i : (300 : Int) < (Ln : Int) := by omega
       go_wp2_with fail
       go_meet
       exact ⟨congrArg Value.bool (by rw [hw.out]; simp [h6]), B1.out, T1.out⟩
      ·have h6i : ¬ (300 : Int) < (Ln : Int) := by omega
       by_cases h7 : 2000 < Un
       ·have h7i : (2000 : Int) < (Un : Int) := by omega
        go_wp2_with fail
        go_meet
        exact ⟨congrArg Value.bool (by rw [hw.out]; simp [h7]), B1.out, T1.out⟩
       ·have h7i : ¬ (2000 : Int) < (Un : Int) := by omega
        go_wp2_with fail
        go_meet
        exact ⟨congrArg Value.bool (by rw [hw.out, Bool.eq_iff_iff]; simp only [hc'.out, Bool.not_true, Bool.and_false, Bool.or_eq_true, zE, Bool.false_eq_true, false_or]; omega), B1.out, T1.out⟩
  case rest =>
   obtain ⟨rfl, hB1, hT1⟩ := hcut
   have B1 := hZ hB1
   have T1 := hZ hT1
   clear hB1 hT1 x0 x1 x2 x3 x4 x5 x6 B0 T0 hw hcode
   obtain ⟨x0, x1, x2, x3, x4, x5, x6⟩ := B1.out.cells7
   cases wrg with
   | true =>
    go_wp2_with fail
    go_ret
    exact ⟨ret_bool (by rw [hR3.out]; rfl), T1.out⟩
   | false =>
    have hR4 := hZ (show rightT ⟨er, id, dy, cd, st, lots, uses⟩ = (lots.all lotB && uses.all useB) from hR3.out)
    clear hR3
    go_wp2_with fail
    clear x0 x1 x2 x3 x4 x5 x6
    go_loopw [95] (fun i wr => TrRel Ln w b1 #[.int .i64 er, .int .i64 id, .int .i64 dy, .string str, .int .u8 st, .slice LA Ln Lc, .slice UA Un Uc] (fun j => (lots.take j).all lotB = true) i wr) (fun i _ => Ln - (intOf i).toNat)
    case atStart => exact ⟨0, Nat.zero_le _, rfl, rfl, B1.out, T1.out⟩
    case round =>
     obtain ⟨j, hj, rfl, hp, hBr, hTr⟩ := hrel
     have hp' := hZ hp
     have BR := hZ hBr
     have TR := hZ hTr
     clear hp hBr hTr
     by_cases hlt : j < Ln
     ·have hji : (j : Int) < (Ln : Int) := by omega
      obtain ⟨bl, off, hA, hc⟩ := SlL.cells (SlE.fresh hL.out TR.out : SlL wr ⟨LA, Ln, Lc⟩ lots) (show 0 < Ln by omega)
      simp only at hA
      subst hA
      obtain ⟨q0, q1, q2, q3, q4, q5⟩ := hc j hlt
      have hjl := hZ (show j < lots.length by rw [hl1'.out]; exact hlt)
      have hm := hZ (all_take lotB lots LotV.zero j hjl.out)
      have hn := hZ (fun h => all_no lotB lots LotV.zero j hjl.out h)
      have hi := (hLk'.out (lots.getD j LotV.zero) (by rw [List.getD_eq_getElem?_getD, List.getElem?_eq_getElem hjl.out]; exact List.getElem_mem hjl.out)).item
      clear hc
      generalize lots.getD j LotV.zero = L at *
      obtain ⟨l0, l1, l2, l3, l4, l5⟩ := L
      simp only at q0 q1 q2 q3 q4 q5 hi
      go_wp2_with fail
      refine (lot_right_any l0 l1 l2 l3 l4 l5 _ hi).mono ?_
      rintro e w5 ⟨rfl, t5⟩
      have t5' := hZ (TR.out.and_ (((Turned.refl (fun _ => False) wr).alloc _).and_ t5))
      have BR' := hZ ((BR.out.alloc _).turned t5 (fun e => e))
      clear q0 q1 q2 q3 q4 q5 t5 BR TR
      cases hb : lotB ⟨l0, l1, l2, l3, l4, l5⟩ with
      | false =>
       have hn' := hZ (hn.out hb)
       clear hb
       go_wp2_with fail
       go_ret
       exact ⟨ret_bool (by rw [hR4.out, hn'.out]; rfl), t5'.out⟩
      | true =>
       have hb' := hZ hb
       clear hb
       go_wp2_with fail
       go_roundw
       case rel => exact ⟨j + 1, hlt, by go_num, (show (lots.take (j + 1)).all lotB = true from by rw [hm.out, hp'.out, hb'.out]; rfl), BR'.out, t5'.out⟩
       case measure => simp [intOf] <;> omega
     ·have hge : (Ln : Int) ≤ (j : Int) := by omega
      have hp2 := hZ (show lots.all lotB = true from by have := hp'.out; rw [List.take_of_length_le (by rw [hl1'.out]; omega)] at this; exact this)
      clear hp'
      obtain ⟨x0, x1, x2, x3, x4, x5, x6⟩ := BR.out.cells7
      go_wp2_with fail
      clear x0 x1 x2 x3 x4 x5 x6
      have hst2 := hZ (show TrRel Un w b1 #[.int .i64 er, .int .i64 id, .int .i64 dy, .string str, .int .u8 st, .slice LA Ln Lc, .slice UA Un Uc] (fun j => (uses.take j).all useB = true) (.int .i64 0) wr from ⟨0, Nat.zero_le _, rfl, rfl, BR.out, TR.out⟩)
      clear BR TR
      go_loopw [106] (fun i wr => TrRel Un w b1 #[.int .i64 er, .int .i64 id, .int .i64 dy, .string str, .int .u8 st, .slice LA Ln Lc, .slice UA Un Uc] (fun j => (uses.take j).all useB = true) i wr) (fun i _ => Un - (intOf i).toNat)
      case atStart => exact hst2.out
      case round =>
       obtain ⟨j2, hj2, rfl, hp, hBr, hTr⟩ := hrel
       have hp' := hZ hp
       have BR := hZ hBr
       have TR := hZ hTr
       clear hp hBr hTr hst2
       by_cases hlt2 : j2 < Un
       ·have hji2 : (j2 : Int) < (Un : Int) := by omega
        obtain ⟨bl, off, hA, hc⟩ := SlU.cells (SlE.fresh hU.out TR.out) (show 0 < Un by omega)
        simp only at hA
        subst hA
        obtain ⟨q0, q1, q2⟩ := hc j2 hlt2
        have hjl := hZ (show j2 < uses.length by rw [hl2'.out]; exact hlt2)
        have hm := hZ (all_take useB uses UseV.zero j2 hjl.out)
        have hn := hZ (fun h => all_no useB uses UseV.zero j2 hjl.out h)
        clear hc
        generalize uses.getD j2 UseV.zero = L at *
        obtain ⟨l0, l1, l2⟩ := L
        simp only at q0 q1 q2
        have t5' := hZ (TR.out.alloc (.cells #[.int .i64 l0, .int .i64 l1, .int .i64 l2] 64))
        have BR' := hZ (BR.out.alloc (.cells #[.int .i64 l0, .int .i64 l1, .int .i64 l2] 64))
        clear BR TR
        by_cases g1 : l0 < 0
        ·have hn' := hZ (hn.out (by unfold useB; simp; omega))
         go_wp2_with fail
         go_ret
         exact ⟨ret_bool (by rw [hR4.out, hn'.out, Bool.and_false]), t5'.out⟩
        by_cases g2 : l1 < 1
        ·have hn' := hZ (hn.out (by unfold useB; simp; omega))
         go_wp2_with fail
         go_ret
         exact ⟨ret_bool (by rw [hR4.out, hn'.out, Bool.and_false]), t5'.out⟩
        by_cases g3 : l2 < 1
        ·have hn' := hZ (hn.out (by unfold useB; simp; omega))
         go_wp2_with fail
         go_ret
         exact ⟨ret_bool (by rw [hR4.out, hn'.out, Bool.and_false]), t5'.out⟩
        have hb' := hZ (show useB ⟨l0, l1, l2⟩ = true from by unfold useB; simp; omega)
        go_wp2_with fail
        go_roundw
        case rel => exact ⟨j2 + 1, hlt2, by go_num, (show (uses.take (j2 + 1)).all useB = true from by rw [hm.out, hp'.out, hb'.out]; rfl), BR'.out, t5'.out⟩
        case measure => simp [intOf] <;> omega
       ·have hge2 : (Un : Int) ≤ (j2 : Int) := by omega
        have hp3 := hZ (show uses.all useB = true from by have := hp'.out; rw [List.take_of_length_le (by rw [hl2'.out]; omega)] at this; exact this)
        go_wp2_with fail
        go_ret
        exact ⟨ret_bool (by rw [hR4.out, hp2.out, hp3.out]; rfl), TR.out⟩
end Go.Proofs.YtglojnmcbochaaaGreatDoor

