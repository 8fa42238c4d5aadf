/-
  ytfheikmjjijdpaadoor: laws and walks on the road to LogKeeps, joined: KmA KmB. Conditions stand at each theorem.
-/
import Derived.Test.YtfheikmjjijdpaaDoorQLhK
import Derived.Test.YtfheikmjjijdpaaDoorQKpV
import Derived.Test.YtfheikmjjijdpaaDoorQLgR
namespace Go.Proofs.YtfheikmjjijdpaaDoor
open Go.RowKit Go.Maps Go.Proofs
set_option linter.unusedVariables false
set_option linter.unusedSimpArgs false

theorem SlB.turned {w w' : World} {W : Nat → Prop} {s : Sl} {zs : List Int} (h : SlB w s zs) (ht : Turned W w w') (hW : ∀ b o, 0 < s.n → s.A = some ⟨b, o, none⟩ → ¬ W b) : SlB w' s zs :=
  ⟨⟨⟨h.bytS.len, h.bytS.max, fun hn => by obtain ⟨b, off, e, hc⟩ := h.bytS.cell hn; exact ⟨b, off, e, fun j hj => cell_turned ht (hc j hj) (hW b off hn e)⟩⟩, h.bytS.nil_⟩, h.le, h.max, h.few⟩
theorem SlP.turned {w w' : World} {W : Nat → Prop} {s : Sl} {l : List (Int × Int)} (h : SlP w s l) (ht : Turned W w w') (hW : ∀ b o, 0 < s.n → s.A = some ⟨b, o, none⟩ → ¬ W b) : SlP w' s l := by
  refine ⟨?_, h.len, h.nil_, h.le, h.max, h.few⟩
  by_cases hn : 0 < s.n
  · exact h.cel.turned ht (fun b o e => hW b o hn e)
  · have h0 : s.n = 0 := by omega
    have hc := h.cel
    exact ⟨hc.len, fun hm => absurd hm (by rw [h0]; omega)⟩
theorem RecIs.turned {w w' : World} {W : Nat → Prop} {R : Rec} {S : RecS} (h : RecIs w R S) (ht : Turned W w w') (hW : ∀ i, S.at i → ¬ W i) : RecIs w' R S :=
  ⟨h.key.turned ht (fun b o hn e => hW b (.inl ⟨hn, o, e⟩)), h.old.turned ht (fun b o hn e => hW b (.inr (.inl ⟨hn, o, e⟩))), h.new.turned ht (fun b o hn e => hW b (.inr (.inr (.inl ⟨hn, o, e⟩)))), h.dirty.turned ht (fun b o hn e => hW b (.inr (.inr (.inr (.inl ⟨hn, o, e⟩))))), h.opn.turned ht (fun b o hn e => hW b (.inr (.inr (.inr (.inr ⟨hn, o, e⟩)))))⟩
theorem SlB.lt {w : World} {s : Sl} {zs : List Int} (h : SlB w s zs) {b o : Nat} (hn : 0 < s.n) (e : s.A = some ⟨b, o, none⟩) : b < w.heap.size := by
  obtain ⟨b', o', e', hc⟩ := h.bytS.cell hn
  rw [e] at e'
  injection e' with e'; injection e' with e1 e2
  have := World.block_lt_of_cell? w _ (hc 0 hn)
  subst e1
  exact this
theorem SlP.lt {w : World} {s : Sl} {l : List (Int × Int)} (h : SlP w s l) {b o : Nat} (hn : 0 < s.n) (e : s.A = some ⟨b, o, none⟩) : b < w.heap.size := by
  obtain ⟨b', o', e', hc⟩ := h.cel.cell (by omega)
  rw [e] at e'
  injection e' with e'; injection e' with e1 e2
  have h0 := hc 0 (by omega)
  have hl := h.cel.len
  rw [List.getElem?_eq_getElem (by omega)] at h0
  have := World.block_lt_of_cell? w _ h0
  subst e1
  exact this
theorem RecIs.lt {w : World} {R : Rec} {S : RecS} (h : RecIs w R S) {i : Nat} (hi : S.at i) : i < w.heap.size := by
  rcases hi with ⟨hn, o, e⟩ | ⟨hn, o, e⟩ | ⟨hn, o, e⟩ | ⟨hn, o, e⟩ | ⟨hn, o, e⟩
  · exact h.key.lt hn e
  · exact h.old.lt hn e
  · exact h.new.lt hn e
  · exact h.dirty.lt hn e
  · exact h.opn.lt hn e
/-- A record that is kept account of: it is read, it is right, its lists lie apart from the log, the disk and the account. -/
structure KRec (w : World) (X : LgM) (d ms mo : Nat) (A : Option Addr) (r : Rec × RecS) : Prop where
  is : RecIs w r.1 r.2
  right : rightR r.1 = true
  ok : r.1.Ok
  lt : ∀ i, r.2.at i → i < w.heap.size
  log : ∀ i, r.2.at i → ¬ X.own i
  dsk : ∀ i, r.2.at i → ¬ dskW d ms mo i
  acc : ∀ i, r.2.at i → ∀ o, A ≠ some ⟨i, o, none⟩
structure KM (w0 w : World) (d ms mo : Nat) (D : DA) (X : LgM) (A : Option Addr) (c : Nat) (rows : List (Rec × RecS)) : Prop where
  log : LogM w X
  xd : X.d = d
  disk : IsDisk w d ms mo D
  all : OwnO w 39 11 A rows.length c (rcells rows)
  recs : ∀ r ∈ rows, KRec w X d ms mo A r
  oL : ∀ i, X.own i → w0.heap.size ≤ i
  oD : ∀ i, dskW d ms mo i → w0.heap.size ≤ i
  oA : ∀ g o, A = some ⟨g, o, none⟩ → w0.heap.size ≤ g
  dL : ∀ i, dskW d ms mo i → ¬ X.own i
  aL : ∀ g o, A = some ⟨g, o, none⟩ → ¬ X.own g
  aD : ∀ g o, A = some ⟨g, o, none⟩ → ¬ dskW d ms mo g
  turned : Turned (fun _ => False) w0 w
section
variable {w0 w w' : World} {d ms mo c : Nat} {D : DA} {X : LgM} {A : Option Addr} {rows : List (Rec × RecS)}
theorem KRec.step {X' : LgM} {A' : Option Addr} {W : Nat → Prop} {r : Rec × RecS} (h : KRec w X d ms mo A r) (ht : Turned W w w') (hW : ∀ i, W i → X.own i ∨ dskW d ms mo i ∨ ∃ o, A = some ⟨i, o, none⟩) (hX : ∀ i, X'.own i → X.own i ∨ w.heap.size ≤ i) (hA : ∀ i o, A' = some ⟨i, o, none⟩ → (∃ o, A = some ⟨i, o, none⟩) ∨ w.heap.size ≤ i) : KRec w' X' d ms mo A' r := by
  have hno : ∀ i, r.2.at i → ¬ W i := fun i hi e => by
    rcases hW i e with e | e | ⟨o, e⟩
    · exact h.log i hi e
    · exact h.dsk i hi e
    · exact h.acc i hi o e
  refine ⟨h.is.turned ht hno, h.right, h.ok, fun i hi => Nat.lt_of_lt_of_le (h.lt i hi) ht.size, fun i hi e => ?_, h.dsk, fun i hi o e => ?_⟩
  · rcases hX i e with e | e
    · exact h.log i hi e
    · have := h.lt i hi; omega
  · rcases hA i o e with ⟨o, e⟩ | e
    · exact h.acc i hi o e
    · have := h.lt i hi; omega
theorem KM.fresh (h : KM w0 w d ms mo D X A c rows) (ht : Turned (fun _ => False) w w') : KM w0 w' d ms mo D X A c rows :=
  ⟨h.log.fresh ht, h.xd, h.disk.fresh ht, h.all.fresh ht, fun r hr => (h.recs r hr).step ht (fun i e => e.elim) (fun i e => .inl e) (fun i o e => .inl ⟨o, e⟩), h.oL, h.oD, h.oA, h.dL, h.aL, h.aD, h.turned.trans ht (fun _ e => e) (fun _ e => e.elim)⟩
/-- Behind a walk over the log, or the log and the disk. -/
theorem KM.step {X' : LgM} {D' : DA} (h : KM w0 w d ms mo D X A c rows) (ht : Turned (ownD X ms mo) w w') (hl : LogM w' X') (hd : X'.d = X.d) (hX : ∀ i, X'.own i → X.own i ∨ w.heap.size ≤ i) (hD : IsDisk w' d ms mo D') : KM w0 w' d ms mo D' X' A c rows := by
  have hW : ∀ i, ownD X ms mo i → X.own i ∨ dskW d ms mo i := fun i e => e.elim .inl (fun e => .inr (by have := h.xd; rw [this] at e; exact e))
  refine ⟨hl, hd.trans h.xd, hD, h.all.turned ht (fun g o e e2 => (hW g e2).elim (h.aL g o e) (h.aD g o e)), fun r hr => (h.recs r hr).step ht (fun i e => (hW i e).elim .inl (fun e => .inr (.inl e))) hX (fun i o e => .inl ⟨o, e⟩), fun i hi => ?_, h.oD, h.oA, fun i hi e => ?_, fun g o e e2 => ?_, h.aD, ?_⟩
  · rcases hX i hi with e | e
    · exact h.oL i e
    · exact Nat.le_trans h.turned.size e
  · rcases hX i e with e | e
    · exact h.dL i hi e
    · have := h.disk.lt hi; omega
  · rcases hX g e2 with e3 | e3
    · exact h.aL g o e e3
    · have := h.all.lt e; omega
  · exact h.turned.trans ht (fun _ e => e) (fun i e => .inr ((hW i e).elim (h.oL i) (h.oD i)))
theorem KM.own (h : KM w0 w d ms mo D X A c rows) {X' : LgM} (hs : OwnStep X X' w w') (hl : LogM w' X') (hd : X'.d = X.d) : KM w0 w' d ms mo D X' A c rows := by
  refine h.step (hs.turned.mono (fun i e => .inl (.inl e))) hl hd hs.own (h.disk.turned hs.turned (fun i hi e => h.dL i hi e))
/-- A disk alone turns. -/
theorem KM.dsk {D' : DA} (h : KM w0 w d ms mo D X A c rows) (ht : Turned (dskW d ms mo) w w') (hD : IsDisk w' d ms mo D') : KM w0 w' d ms mo D' X A c rows :=
  h.step (ht.mono (fun i e => .inl (.inr (by have := h.xd; rw [this]; exact e)))) (h.log.far ht (fun i hi e => h.dL i e hi)) rfl (fun i e => .inl e) hD
/-- One more record on the account. -/
theorem KM.snoc {A' : Option Addr} {c' : Nat} {o : Obj} {r : Rec × RecS} (h : KM w0 w d ms mo D X A c rows) (hr : KRec w X d ms mo A r) (ho : OwnO w' 39 11 A' (rows.length + 1) c' (rcells rows ++ (recC r.1 r.2).toList)) (a : App3 (w.alloc o) w' A A' c c') : KM w0 w' d ms mo D X A' c' (rows ++ [r]) := by
  have ta := (Turned.refl (fun _ => False) w).alloc o
  have h1 := h.fresh ta
  have hr1 := hr.step ta (fun i e => e.elim) (fun i e => .inl e) (fun i o e => .inl ⟨o, e⟩)
  have t := a.turned
  have hA : ∀ i o2, A' = some ⟨i, o2, none⟩ → (∃ o, A = some ⟨i, o, none⟩) ∨ (w.alloc o).heap.size ≤ i := fun i o2 e => by
    rcases a with ⟨e2, _⟩ | ⟨e2, _⟩
    · exact .inl ⟨o2, by rw [← e2]; exact e⟩
    · rw [e2] at e
      injection e with e; injection e with e
      exact .inr (Nat.le_of_eq e)
  have hs := ta.size
  refine ⟨h1.log.far t (fun i hi e => by obtain ⟨o2, e⟩ := e; exact h1.aL i o2 e hi), h1.xd, h1.disk.turned t (fun i hi e => by obtain ⟨o2, e⟩ := e; exact h1.aD i o2 e hi), by rw [List.length_append, rcells_snoc]; exact ho, fun q hq => ?_, h1.oL, h1.oD, fun g o2 e => ?_, h1.dL, fun g o2 e e2 => ?_, fun g o2 e e2 => ?_, h1.turned.trans t (fun _ e => e) (fun i e => by obtain ⟨o2, e⟩ := e; exact .inr (h1.oA i o2 e))⟩
  · rcases List.mem_append.1 hq with hq | hq
    · exact (h1.recs q hq).step t (fun i e => .inr (.inr e)) (fun i e => .inl e) hA
    · rw [List.mem_singleton.1 hq]; exact hr1.step t (fun i e => .inr (.inr e)) (fun i e => .inl e) hA
  · rcases hA g o2 e with ⟨o3, e3⟩ | e3
    · exact h1.oA g o3 e3
    · have := h1.turned.size; omega
  · rcases hA g o2 e with ⟨o3, e3⟩ | e3
    · exact h1.aL g o3 e3 e2
    · have := h1.log.lt e2; omega
  · rcases hA g o2 e with ⟨o3, e3⟩ | e3
    · exact h1.aD g o3 e3 e2
    · have := h1.disk.lt e2; omega
end
theorem rcells_length (rows : List (Rec × RecS)) : (rcells rows).length = rows.length * 11 := by
  induction rows with
  | nil => rfl
  | cons r t ih =>
    rw [show rcells (r :: t) = (recC r.1 r.2).toList ++ rcells t by simp [rcells], List.length_append, ih, List.length_cons]
    have : (recC r.1 r.2).toList.length = 11 := rfl
    omega
theorem rcells_append (a b : List (Rec × RecS)) : rcells (a ++ b) = rcells a ++ rcells b := by simp [rcells]
theorem rcells_take (rows : List (Rec × RecS)) (k : Nat) (hk : k ≤ rows.length) : (rcells rows).take (k * 11) = rcells (rows.take k) := by
  have e : rcells rows = rcells (rows.take k) ++ rcells (rows.drop k) := by rw [← rcells_append, List.take_append_drop]
  rw [e, List.take_left' (by rw [rcells_length, List.length_take]; omega)]
theorem rcells_drop (rows : List (Rec × RecS)) (k : Nat) (hk : k ≤ rows.length) : (rcells rows).drop (k * 11) = rcells (rows.drop k) := by
  have e : rcells rows = rcells (rows.take k) ++ rcells (rows.drop k) := by rw [← rcells_append, List.take_append_drop]
  rw [e, List.drop_left' (by rw [rcells_length, List.length_take]; omega)]
theorem rcells_at {rows : List (Rec × RecS)} {k : Nat} {r : Rec × RecS} (h : rows[k]? = some r) (j : Nat) (hj : j < 11) : (rcells rows)[k * 11 + j]? = (recC r.1 r.2).toList[j]? := by
  have hk := (List.getElem?_eq_some_iff.1 h).1
  have h1 : ((rcells rows).drop (k * 11))[j]? = (rcells rows)[k * 11 + j]? := List.getElem?_drop
  rw [← h1, rcells_drop rows k (Nat.le_of_lt hk), List.drop_eq_getElem_cons hk]
  have e2 : rows[k] = r := by rw [List.getElem?_eq_getElem hk] at h; injection h
  rw [e2, show rcells (r :: rows.drop (k + 1)) = (recC r.1 r.2).toList ++ rcells (rows.drop (k + 1)) by simp [rcells], List.getElem?_append_left (by show j < 11; exact hj)]
section
variable {w0 w w' : World} {d ms mo c : Nat} {D : DA} {X : LgM} {A : Option Addr} {rows : List (Rec × RecS)}
theorem KM.cut (h : KM w0 w d ms mo D X A c rows) {k : Nat} (hk : k ≤ rows.length) : KM w0 w d ms mo D X A c (rows.take k) := by
  have hl : (rows.take k).length = k := by rw [List.length_take]; omega
  refine ⟨h.log, h.xd, h.disk, ?_, fun r hr => h.recs r (List.mem_of_mem_take hr), h.oL, h.oD, h.oA, h.dL, h.aL, h.aD, h.turned⟩
  have := h.all.cut hk
  rw [hl, ← rcells_take rows k hk]
  exact this
theorem KM.drop {g o : Nat} (h : KM w0 w d ms mo D X (some ⟨g, o, none⟩) c rows) {k : Nat} (hk : k ≤ rows.length) : KM w0 w d ms mo D X (some ⟨g, o + k * 11, none⟩) (c - k) (rows.drop k) := by
  have hl : (rows.drop k).length = rows.length - k := List.length_drop
  have hA : ∀ i o2, (some ⟨g, o + k * 11, none⟩ : Option Addr) = some ⟨i, o2, none⟩ → i = g := fun i o2 e => by injection e with e; injection e with e; exact e.symm
  refine ⟨h.log, h.xd, h.disk, ?_, fun r hr => ?_, h.oL, h.oD, fun i o2 e => by rw [hA i o2 e]; exact h.oA g o rfl, h.dL, fun i o2 e => by rw [hA i o2 e]; exact h.aL g o rfl, fun i o2 e => by rw [hA i o2 e]; exact h.aD g o rfl, h.turned⟩
  · have := h.all.drop hk
    rw [hl, ← rcells_drop rows k hk]
    exact this
  · have hq := h.recs r (List.mem_of_mem_drop hr)
    exact ⟨hq.is, hq.right, hq.ok, hq.lt, hq.log, hq.dsk, fun i hi o2 e => hq.acc i hi o (by rw [hA i o2 e])⟩
end
end Go.Proofs.YtfheikmjjijdpaaDoor

namespace Go.Proofs.YtfheikmjjijdpaaDoor
open Go.RowKit Go.Maps Go.Proofs
set_option linter.unusedVariables false
set_option linter.unusedSimpArgs false

/-- What is kept, against the log in memory. -/
def KRel (T : Int) (E : Int → Option Sc) (X : LgM) (recs : List Rec) (safe step : Nat) : Prop :=
  (∃ k, KOk k ∧ KMem k X ∧ k.T = T ∧ k.E = E ∧ k.all = recs ∧ k.safe = safe ∧ k.N + (k.sheets.length : Int) ≤ (step : Int) + 1) ∨ (KEmp T E X ∧ recs = [] ∧ safe = 0)
theorem KRel.mono {T : Int} {E : Int → Option Sc} {X : LgM} {recs : List Rec} {safe step step' : Nat} (h : KRel T E X recs safe step) (hs : step ≤ step') : KRel T E X recs safe step' := by
  rcases h with ⟨k, a, b, c, d, e, f, g⟩ | h
  · exact .inl ⟨k, a, b, c, d, e, f, by omega⟩
  · exact .inr h
theorem KRel.T1 {T : Int} {E : Int → Option Sc} {X : LgM} {recs : List Rec} {safe step : Nat} (h : KRel T E X recs safe step) : 1 ≤ T := by
  rcases h with ⟨k, a, b, c, _⟩ | ⟨h, _⟩
  · rw [← c]; exact a.T1
  · exact h.T1
theorem KRel.safeLe {T : Int} {E : Int → Option Sc} {X : LgM} {recs : List Rec} {safe step : Nat} (h : KRel T E X recs safe step) : safe ≤ recs.length := by
  rcases h with ⟨k, a, b, _, _, e, f, _⟩ | ⟨_, e, f⟩
  · rw [← e, ← f]
    unfold KS.safe KS.all KS.sheets
    rw [List.length_drop, recsOf_append, recsOf_append, List.length_append, List.length_append]
    cases ho : k.od with
    | nil => simp [recsOf]; omega
    | cons o od' =>
      have ho' : od' = [] := by have := a.odl; rw [ho] at this; cases od' with | nil => rfl | cons _ _ => simp at this
      subst ho'
      obtain ⟨s, t, Rx, e1, e2, _⟩ := a.ovr o ho
      rw [e1, show recsOf [o] = o.Rs by simp [recsOf], show recsOf (s :: t) = s.Rs ++ recsOf t by simp [recsOf], e2]
      simp only [List.length_append]
      omega
  · rw [f]; exact Nat.zero_le _
theorem KRel.lsLen {T : Int} {E : Int → Option Sc} {X : LgM} {recs : List Rec} {safe step : Nat} (h : KRel T E X recs safe step) : X.ls.length = recs.length := by
  rcases h with ⟨k, a, b, _, _, e, _⟩ | ⟨k, e, _⟩
  · rw [b.ls, ← e, k.all_length]
  · rw [k.ls, e]; rfl
structure FromOk (X : LgM) (Rs : List Rec) : Prop where
  srt : X.ls.Pairwise (· ≤ ·)
  old : X.ls[0]? = some X.oldest
  len : Rs.length = X.ls.length
  all : ∀ (j : Nat) (y : Int) (R : Rec), X.ls[j]? = some y → Rs[j]? = some R → ∃ i p s0 s rest, RecAtX X y R i p s0 s rest
theorem KRel.from_ {T : Int} {E : Int → Option Sc} {X : LgM} {recs : List Rec} {safe step : Nat} (h : KRel T E X recs safe step) (hn : recs ≠ []) : FromOk X recs := by
  have hl := h.lsLen
  rcases h with ⟨k, a, b, _, _, e, _⟩ | ⟨_, e, _⟩
  · subst e
    exact ⟨by rw [b.ls]; exact a.sorted, k_old a b, hl.symm, k_rec a b⟩
  · exact absurd e hn
set_option maxRecDepth 100000 in
/-- From, in a log that has no record. -/
theorem hfr_none (X : LgM) (x : Int) (w : World) (h : LogM w X) (hl : X.ls = []) : Calls Tryd.prog 16 #[.pointer (some ⟨X.L, 0, none⟩), .int .i64 x] w (RetNew (.slice none 0 0) w) := by
  have x0 : w.cell? ⟨X.L, 0, none⟩ = some (.pointer (some ⟨X.d, 0, none⟩)) := h.blk.cell 0
  have x6 : w.cell? ⟨X.L, 6, none⟩ = some (.slice X.Al X.ls.length X.cl) := h.blk.cell 6
  have hq := hsearch_any X.Al X.ls.length X.cl X.ls x w h.lsn rfl h.lB (by rw [hl]; simp)
  rw [hl] at hq
  rw [hl] at x6
  have HQ := Lib.hid hq
  clear h hq hl
  go_enter Tryd.func16, Tryd.ntmps16
  go_wp2_with fail
  refine (lthere_yes X.L X.d w x0).mono ?_
  rintro e w1 ⟨rfl, rfl⟩
  go_wp2_with fail
  refine HQ.out.mono ?_
  rintro e w1 ⟨rfl, q, rfl⟩
  clear x0 x6
  go_wp2_with fail
  go_ret
  exact ⟨rfl, (Turned.refl (fun _ => False) w).drewN q⟩
section
variable {w0 w : World} {d ms mo c safe step : Nat} {D : DA} {E : Int → Option Sc} {T : Int} {X : LgM} {A : Option Addr} {rows : List (Rec × RecS)}
theorem km_first (h : LogM w X) (hk : KRel T E X (rows.map Prod.fst) safe step) (hr : rows.length ≤ 1000) : Calls Tryd.prog 17 #[.pointer (some ⟨X.L, 0, none⟩), .int .i64 rows.length] w (RetNew (.int .i64 X.oldest) w) := by
  by_cases hn : rows = []
  · subst hn
    exact first_zero X w h
  · have hf := hk.from_ (fun e => hn (List.map_eq_nil_iff.1 e))
    have hl := hf.len
    rw [List.length_map] at hl
    exact first_pos X rows.length (rows.map Prod.fst) w h (List.length_pos_iff.2 hn) (by omega) hf.srt hf.old hf.len (by omega) hf.all
theorem km_from (h : LogM w X) (hk : KRel T E X (rows.map Prod.fst) safe step) (hr : rows.length ≤ 1000) (hn : rows ≠ []) : Calls Tryd.prog 16 #[.pointer (some ⟨X.L, 0, none⟩), .int .i64 X.oldest] w (HFr X.ls (rows.map Prod.fst) w) := by
  have hf := hk.from_ (fun e => hn (List.map_eq_nil_iff.1 e))
  have hl := hf.len
  rw [List.length_map] at hl
  exact hfr_any X X.oldest (rows.map Prod.fst) w h hf.srt hf.old hf.len (by omega) hf.all
/-- Append: the record is kept, or there is no room. -/
def KApp (w0 w : World) (d ms mo c safe step : Nat) (D : DA) (E : Int → Option Sc) (T : Int) (X : LgM) (A : Option Addr) (rows : List (Rec × RecS)) (r : Rec × RecS) (e : Ending) (w' : World) : Prop :=
  (∃ X' lsn, X'.L = X.L ∧ e = .returned (.tuple #[.int .i64 lsn, .int .i64 0]) ∧ KM w0 w' d ms mo D X' A c rows ∧ KRel T E X' (rows.map Prod.fst ++ [r.1]) safe (step + 1) ∧ KRec w' X' d ms mo A r ∧ Turned X.own w w') ∨
  (e = .returned (.tuple #[.int .i64 0, .int .i64 5]) ∧ KM w0 w' d ms mo D X A c rows)
theorem rbody_few {R : Rec} (hr : rightR R = true) (_hk : R.Ok) : (bodyL R).length ≤ 494 := by
  obtain ⟨lsn, work, prev, next, kind, page, key, old, new, dirty, opn⟩ := R
  unfold bodyL restL
  unfold rightR at hr
  simp only at *
  rw [List.length_cons]
  by_cases h5 : kind = 5
  · rw [if_pos h5] at hr ⊢
    simp only [Bool.and_eq_true, decide_eq_true_eq] at hr
    have hm := hr.2
    unfold markB at hm
    simp only [Bool.and_eq_true, decide_eq_true_eq] at hm
    unfold listL
    simp only [List.length_append, be_length, flat_le]
    omega
  · rw [if_neg h5] at hr ⊢
    simp only [Bool.and_eq_true, decide_eq_true_eq] at hr
    have hkd := hr.2
    unfold kindB at hkd
    simp only at hkd
    simp only [List.length_append, be_length]
    by_cases h1 : kind = 1
    · rw [if_pos h1] at hkd ⊢
      simp only [Bool.and_eq_true, decide_eq_true_eq] at hkd
      have ht := turnB_len hkd.2
      simp only at ht
      simp only [List.length_append, be_length, turnL, rowL_length]
      omega
    · rw [if_neg h1] at hkd ⊢
      by_cases h2 : kind = 2
      · rw [if_pos h2] at hkd ⊢
        simp only [Bool.and_eq_true, decide_eq_true_eq] at hkd
        have ht := turnB_len hkd.2
        simp only at ht
        simp only [List.length_append, be_length, turnL, rowL_length]
        omega
      · rw [if_neg h2]
        split
        · simp only [List.length_append, be_length]; omega
        · simp
theorem rput_few {R : Rec} (hr : rightR R = true) (hk : R.Ok) : (putR R).length ≤ 496 := by
  rw [rput_yes hr, List.length_append, be_length]
  have := rbody_few hr hk
  omega
theorem km_append {r : Rec × RecS} (h : KM w0 w d ms mo D X A c rows) (hk : KRel T E X (rows.map Prod.fst) safe step) (hr : KRec w X d ms mo A r) (hstep : step ≤ 1000) (hrows : rows.length ≤ 1000) :
    Calls Tryd.prog 8 #[.pointer (some ⟨X.L, 0, none⟩), .agg (recC r.1 r.2)] w (KApp w0 w d ms mo c safe step D E T X A rows r) := by
  have hlen : 3 ≤ (putR r.1).length ∧ (putR r.1).length ≤ 496 := ⟨(rput_len hr.right hr.ok).1, rput_few hr.right hr.ok⟩
  have hll := hk.lsLen
  rw [List.length_map] at hll
  have fin : ∀ {X' : LgM} {w' : World} {lsn : Int}, LogM w' X' → X'.L = X.L → X'.d = X.d → OwnStep X X' w w' → KRel T E X' (rows.map Prod.fst ++ [r.1]) safe (step + 1) → KApp w0 w d ms mo c safe step D E T X A rows r (.returned (.tuple #[.int .i64 lsn, .int .i64 0])) w' := fun hl hL hd hs hk' =>
    .inl ⟨_, _, hL, rfl, h.own hs hl hd, hk', hr.step hs.turned (fun i e => .inl e) hs.own (fun i o e => .inl ⟨o, e⟩), hs.turned⟩
  rcases hk with ⟨k, a, m, eT, eE, eall, esafe, eN⟩ | ⟨em, e1, e2⟩
  · have hne : X.shs ≠ [] := fun e => by have := m.len; rw [e] at this; exact a.ne (List.length_eq_zero_iff.1 this.symm)
    obtain ⟨init, mm, es⟩ := snoc_of hne
    have hcount := m.count
    have hshl := m.len
    have hfew : k.sheets.length ≤ 5 := a.few
    by_cases h1 : mm.body.length + (putR r.1).length ≤ 496
    · refine (mapp_fit h.log es hr.right hr.is hlen (by omega) h1).mono ?_
      rintro e w' ⟨gb', c', Al', cl', X', rfl, rfl, hl, hs⟩
      obtain ⟨k', b1, b2, b3, b4⟩ := k_app_fit (gb' := gb') (c' := c') (Al' := Al') (cl' := cl') a m es hr.right hr.ok h1
      exact fin hl rfl rfl hs (.inl ⟨k', b1, b4, b2.T.trans eT, b2.E.trans eE, by rw [b2.all, eall], b2.safe.trans esafe, by rw [b2.N, b3]; omega⟩)
    · by_cases h2 : X.count - 1 - (X.shs.length : Int) = 0
      · refine (mapp_full h.log es hr.right hr.is hlen (by omega) (by omega) h2).mono ?_
        rintro e w' ⟨rfl, t⟩
        exact .inr ⟨rfl, h.fresh t⟩
      · have hmm : mm ∈ X.shs := by rw [es]; simp
        obtain ⟨i, s, f1, f2, f3, f4⟩ := a.lastS m es
        have hnum : s.num ≤ 2000 := by
          have h9 := Chn.num a.chnA s (by rw [f1]; simp)
          omega
        refine (mapp_new h.log es hr.right hr.is hlen (by omega) (by omega) h2 (by omega) (by rw [f3]; omega)).mono ?_
        rintro e w' ⟨S', So', g', gb', c', cS', Al', cl', X', rfl, rfl, hl, hs⟩
        obtain ⟨k', b1, b2, b3, b4⟩ := k_app_new (S' := S') (So' := So') (g' := g') (gb' := gb') (c' := c') (cS' := cS') (Al' := Al') (cl' := cl') a m es hr.right hr.ok hlen.2 (by omega)
        exact fin hl rfl rfl hs (.inl ⟨k', b1, b4, b2.T.trans eT, b2.E.trans eE, by rw [b2.all, eall], b2.safe.trans esafe, by rw [b2.N, b3]; omega⟩)
  · obtain ⟨m, es, _, _, hb, _⟩ := em.shs
    have es' : X.shs = [] ++ [m] := es
    refine (mapp_fit h.log es' hr.right hr.is hlen (by omega) (by rw [hb]; simpa using hlen.2)).mono ?_
    rintro e w' ⟨gb', c', Al', cl', X', rfl, rfl, hl, hs⟩
    obtain ⟨k', b1, b2, b3, b4, b5, b6, b7, b8⟩ := k_app_empty (gb' := gb') (c' := c') (Al' := Al') (cl' := cl') em es' hr.right hr.ok hlen.2
    exact fin hl rfl rfl hs (.inl ⟨k', b1, b8, b2, b3, by rw [b5, e1]; rfl, by rw [b6, e2], by rw [b4, b7]; omega⟩)
end
end Go.Proofs.YtfheikmjjijdpaaDoor

