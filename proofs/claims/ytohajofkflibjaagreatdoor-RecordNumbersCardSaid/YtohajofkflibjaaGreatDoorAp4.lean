/-
  ytohajofkflibjaagreatdoor: laws and walks on the road to RecordNumbers, joined: RecL Ap4. Conditions stand at each theorem.
-/
import Derived.Test.YtohajofkflibjaaGreatDoorRecH
import Derived.Test.YtohajofkflibjaaGreatDoorRecK
import Derived.Test.YtohajofkflibjaaGreatDoorOwn
namespace Go.Proofs.YtohajofkflibjaaGreatDoor
open Go.RowKit Go.Maps
set_option linter.unusedVariables false
set_option linter.unusedSimpArgs false

theorem OwnV.bytS' {w : World} {A : Option Addr} {n c : Nat} {zs : List Int} (h : OwnV w A n c zs) : BytS w A n c zs := by
  refine ⟨?_, fun e => ?_⟩
  · rcases h.row_or with ⟨rfl, rfl, rfl, rfl⟩ | ⟨g, rfl, hr⟩
    · exact BytR.none_ w
    · exact hr.bytR
  · rcases h.row_or with ⟨_, e2, e3, _⟩ | ⟨g, e1, hr⟩
    · exact ⟨e2, e3⟩
    · rw [e1] at e; cases e
set_option maxRecDepth 100000 in
theorem copyB_any (A : Option Addr) (n c : Nat) (zs : List Int) (w : World) (h : BytS w A n c zs) (hn : 0 < n) (hn2 : n ≤ 1000000) :
    Calls Tryz.prog 26 #[.slice A n c] w (PutB zs w) := by
  have h' := Lib.hid h
  have hl := Lib.hid h.len
  obtain ⟨b, off, rfl, _⟩ := h.cell hn
  clear h
  go_enter Tryz.func26, Tryz.ntmps26
  go_wp2_with (at_builtin; refine wpList_app2 bytT rfl (.tmp 4) (.tmp 5) rfl (OwnV.nil w) ⟨b, off, none⟩ n c zs hl.out (h'.out.news _ rfl) hn (by omega) rfl rfl ?_; intro A' c' w4 ho4 hor4)
  go_ret
  rcases hor4 with ⟨_, _, h3, _⟩ | ⟨rfl, ht⟩
  · exact absurd rfl h3
  · simp only [Nat.zero_add, List.nil_append] at ho4
    exact ⟨_, c', by rw [hl.out]; rfl, by rw [hl.out]; exact ho4, fun g e => by injection e with e; injection e with e; omega, ht⟩
def comR : Rec := ⟨0, 3, 258, 0, 3, 0, [], [], [], [], []⟩
theorem comR_right : rightR comR = true := by decide
theorem comR_put : putR comR = [0, 17, 3, 0, 0, 0, 0, 0, 0, 0, 3, 0, 0, 0, 0, 0, 0, 1, 2] := by decide
theorem comR_ok : comR.Ok := ⟨by unfold I64; decide, by unfold I64; decide, by unfold I64; decide, by unfold I64; decide, by decide, by unfold I64; decide, by simp [comR], by simp [comR], by simp [comR], by simp [comR], by simp [comR]⟩
theorem comR_cut : getR ((putR comR).take 16) = none := by
  have h := get_put comR_right comR_ok []
  rw [List.append_nil] at h
  refine (put_get (zs := putR comR) (by rw [comR_put]; unfold isByte; simp) h).2.2.2.2.2 16 ?_
  rw [comR_put]
  decide
theorem nil_is (w : World) (R : Rec) (h1 : R.key = []) (h2 : R.old = []) (h3 : R.new = []) (h4 : R.dirty = []) (h5 : R.opn = []) : RecIs w R RecS.nil := by
  have hb : SlB w Sl.nil [] := ⟨⟨BytR.none_ w, fun _ => ⟨rfl, rfl⟩⟩, Nat.le_refl _, by unfold Sl.nil maxLen; simp, Nat.zero_le _⟩
  have hp : SlP w Sl.nil [] := ⟨CelR.none_ w, rfl, fun _ => ⟨rfl, rfl⟩, Nat.le_refl _, by unfold Sl.nil maxLen; simp, Nat.zero_le _⟩
  exact ⟨by rw [h1]; exact hb, by rw [h2]; exact hb, by rw [h3]; exact hb, by rw [h4]; exact hp, by rw [h5]; exact hp⟩
set_option maxRecDepth 100000 in
theorem commit_any (w : World) : Calls Tryz.prog 27 #[] w (RetNew (.agg (recC comR RecS.nil)) w) := by
  go_enter Tryz.func27, Tryz.ntmps27
  go_wp2
  refine bodyPost_ret (v := .agg (recC comR RecS.nil)) (by simp [results, Tryz.results27, go_sem, recC, comR, RecS.nil, Sl.nil]) rfl ⟨rfl, ?_⟩
  exact (Turned.refl (fun _ => False) w).alloc _
def greatB (R : Rec) : Bool := decide (1000 < R.dirty.length) || decide (1000 < R.opn.length) || decide (100000 < R.key.length + R.old.length + R.new.length)
set_option maxRecDepth 100000 in
set_option maxHeartbeats 1000000 in
theorem great_any (R : Rec) (S : RecS) (w : World) (h : RecIs w R S) : Calls Tryz.prog 6 #[.agg (recC R S)] w (RetNew (.bool (greatB R)) w) := by
  have hg : greatB R = (decide (1000 < S.D.n) || decide (1000 < S.P.n) || decide (100000 < S.K.n + S.O.n + S.N.n)) := by
    unfold greatB
    rw [h.dirty.len, h.opn.len, h.key.len, h.old.len, h.new.len]
  have h1 := h.key.few
  have h2 := h.old.few
  have h3 := h.new.few
  have h4 := h.dirty.few
  have h5 := h.opn.few
  have hg' := Lib.hid hg
  clear h hg
  obtain ⟨lsn, work, prev, next, kind, page, key, old, new, dirty, opn⟩ := R
  obtain ⟨⟨KA, Kn, Kc⟩, ⟨OA, On, Oc⟩, ⟨NA, Nn, Nc⟩, ⟨DA, Dn, Dc⟩, ⟨PA, Pn, Pc⟩⟩ := S
  simp only at h1 h2 h3 h4 h5 hg'
  unfold recC
  simp only
  go_enter Tryz.func6, Tryz.ntmps6
  go_wp2
  all_goals
    go_ret
    refine ⟨ret_bool ?_, (Turned.refl _ w).alloc _⟩
    rw [hg'.out, Bool.eq_iff_iff]
    simp only [Bool.or_eq_true, decide_eq_true_eq, Bool.true_eq, Bool.false_eq_true]
    first
    | exact ⟨fun hh => by omega, fun hh => by omega⟩
    | exact ⟨fun _ => by omega, fun _ => trivial⟩
end Go.Proofs.YtohajofkflibjaaGreatDoor

namespace Go.Proofs.YtohajofkflibjaaGreatDoor
open Go.RowKit Go.Maps
set_option linter.unusedVariables false

theorem BytR.tF {w w' : World} {A : Option Addr} {n : Nat} {zs : List Int} (h : BytR w A n zs) (ht : Turned (fun _ => False) w w') : BytR w' A n zs := h.turned ht (fun _ _ _ e => e)
theorem BytS.tF {w w' : World} {A : Option Addr} {n c : Nat} {zs : List Int} (h : BytS w A n c zs) (ht : Turned (fun _ => False) w w') : BytS w' A n c zs := h.turned ht (fun _ _ _ e => e)
section
variable {P : Program} {w : World} {S : TypeId} {g n c : Nat} {zs : List Int}
theorem wpList_app4 {ops : Array Oper} {rest : List Oper} {o : Oper} {a : Act} {Q : Exit → Act → World → Prop} (B : BytT P S 5) (hgd : o.guard = none) (s x : Operand) (ho : o.op = .call { callee := .builtin .append, args := #[s, x], argTypes := #[S, S] })
    (h : OwnV w (some ⟨g, 0, none⟩) n c zs) {A : Option Addr} {m cc : Nat} {ys : List Int} (hy : BytS w A m cc ys) (hb : n + m ≤ 140737488355328) (hs : a.eval s = .slice (some ⟨g, 0, none⟩) n c) (hx : a.eval x = .slice A m cc)
    (hC : ∀ A' c' w', OwnV w' A' (n + m) c' (zs ++ ys) → ((A' = some ⟨g, 0, none⟩ ∧ c' = c ∧ (some (⟨g, 0, none⟩ : Addr)) ≠ none ∧ Turned (fun g' => some (⟨g, 0, none⟩ : Addr) = some ⟨g', 0, none⟩) w w') ∨ (A' = some ⟨w.heap.size, 0, none⟩ ∧ Turned (fun _ => False) w w')) → wpList P ops Q rest (a.put o.dst (.slice A' (n + m) c')) w') : wpList P ops Q (o :: rest) a w := by
  rcases Nat.eq_zero_or_pos m with h0 | h0
  · subst h0
    obtain ⟨i0, hi, hz0, hz1, hz2⟩ := info_parts B.info
    have hl0 : ys = [] := List.length_eq_zero_iff.1 hy.len
    subst hl0
    refine wpList_append_fits_any w hgd s x S ho 0 5 i0 1 B.und hi hz1 g n c (u8s zs) hs h A 0 cc [] hx rfl hy.nil_ (fun ad e j u hu => by simp at hu) (by simp) (by have := h.max; omega) ?_
    intro w2 hown2 hg2
    rw [List.append_nil] at hown2
    exact hC _ _ _ (by rw [List.append_nil]; exact hown2) (.inl ⟨rfl, rfl, by simp, (Turned.refl _ w).grown hg2 (fun k e => by injection e with e; subst e; exact .inl rfl)⟩)
  · obtain ⟨b, off, rfl, _⟩ := hy.cell h0
    exact wpList_app2 B hgd s x ho h ⟨b, off, none⟩ m cc ys hy.len (hy.news _ rfl) h0 hb hs hx hC
end
end Go.Proofs.YtohajofkflibjaaGreatDoor

