/-
  storemanlaw13: great; CopyBytes; awake: the chapter's examples stand. Conditions: ask.kinds holds what its initialiser lays.
-/
import Derived.Test.YtijmfglgeaaoaaaGreatDoorQAskI
import Derived.Test.YtijmfglgeaaoaaaGreatDoorQAskK
import Derived.Test.YtijmfglgeaaoaaaGreatDoorQAskX
namespace Go.Proofs.YtijmfglgeaaoaaaGreatDoor
open Go.RowKit Go.Maps
set_option linter.unusedVariables false
set_option linter.unusedSimpArgs false

theorem OwnV.bytS' {w : World} {A : Option Addr} {n c : Nat} {zs : List Int} (h : OwnV w A n c zs) : BytS w A n c zs := by
  refine ⟨?_, fun e => ?_⟩
  · rcases h.row_or with ⟨rfl, rfl, rfl, rfl⟩ | ⟨g, rfl, hr⟩
    · exact BytR.none_ w
    · exact hr.bytR
  · rcases h.row_or with ⟨_, e2, e3, _⟩ | ⟨g, e1, hr⟩
    · exact ⟨e2, e3⟩
    · rw [e1] at e; cases e
set_option maxRecDepth 100000 in
theorem copyB_any (A : Option Addr) (n c : Nat) (zs : List Int) (w : World) (h : BytS w A n c zs) (hn : 0 < n) (hn2 : n ≤ 1000000) :
    Calls Tryz.prog 41 #[.slice A n c] w (PutPost zs w) := by
  have h' := Lib.hid h
  have hl := Lib.hid h.len
  obtain ⟨b, off, rfl, _⟩ := h.cell hn
  clear h
  go_enter Tryz.func41, Tryz.ntmps41
  go_wp2_with (at_builtin; refine wpList_app2 bytT rfl (.tmp 4) (.tmp 5) rfl (OwnV.nil w) ⟨b, off, none⟩ n c zs hl.out (h'.out.news _ rfl) hn (by omega) rfl rfl ?_; intro A' c' w4 ho4 hor4)
  go_ret
  rcases hor4 with ⟨_, _, h3, _⟩ | ⟨rfl, ht⟩
  · exact absurd rfl h3
  · simp only [Nat.zero_add, List.nil_append] at ho4
    exact ⟨_, c', by rw [hl.out]; rfl, by rw [hl.out]; exact ho4, fun g e => by injection e with e; injection e with e; omega, ht⟩
theorem changes_any (k : Int) (w : World) (hk : isByte k) : Calls Tryz.prog 21 #[.int .u8 k] w (RetSame (.bool (decide (1 ≤ k) && decide (k ≤ 12))) w) := by
  unfold isByte at hk
  by_cases h1 : 1 ≤ k
  · by_cases h2 : k ≤ 12
    · go_enter Tryz.func21, Tryz.ntmps21
      go_wp2
      go_ret
      exact ⟨ret_bool (by simp [h1, h2]), rfl⟩
    · go_enter Tryz.func21, Tryz.ntmps21
      go_wp2
      go_ret
      exact ⟨ret_bool (by simp; omega), rfl⟩
  · go_enter Tryz.func21, Tryz.ntmps21
    go_wp2
    go_ret
    exact ⟨ret_bool (by simp; omega), rfl⟩
/-! plain -/
theorem encF_byte (a : AskV) (c : Nat) : ∀ z ∈ encF a c, isByte z := by
  have hb := be_byte
  have hp := putL_byte
  intro z hz
  unfold encF at hz
  repeat' split at hz
  all_goals first
    | exact hp _ z hz
    | exact hb _ _ z hz
    | (rcases List.mem_append.1 hz with hz | hz
       · exact hb _ _ z hz
       · obtain ⟨p, _, hz⟩ := List.mem_flatMap.1 hz
         first
         | exact hp _ z hz
         | (rcases List.mem_append.1 hz with hz | hz
            · exact hp _ z hz
            · exact hb _ _ z hz))
    | (exfalso; simp at hz)
theorem putA_byte (a : AskV) : ∀ z ∈ putA a, isByte z := by
  intro z hz
  unfold putA at hz
  split at hz
  · unfold bodyA at hz
    rcases List.mem_append.1 hz with hz | hz
    · exact be_byte _ _ z hz
    · rcases List.mem_append.1 hz with hz | hz
      · exact be_byte _ _ z hz
      · obtain ⟨c, _, hz⟩ := List.mem_flatMap.1 hz
        exact encF_byte a c z hz
  · cases hz
theorem putA_len {a : AskV} (h : rightA a = true) : 9 ≤ (putA a).length ∧ (putA a).length ≤ 1000 := by
  obtain ⟨f, hf, _, _, hfit⟩ := rightA_some h
  have hfk := fieldsK_kinds hf
  have e : putA a = headA a ++ (f.take f.length).flatMap (encF a) := by
    unfold putA
    rw [if_pos h, bodyA_eq hf, List.take_length]
  refine ⟨?_, ?_⟩
  · rw [e]
    unfold headA
    rw [List.length_append, List.length_append, be_length, be_length]
    omega
  · rw [e]
    exact so_far_len (kinds_letters hfk).1 (fun c hc => by
      have := hfit c ((kinds_letters hfk).2 c hc)
      unfold fitF at this
      rw [if_pos (by simpa using hc)] at this
      exact this) f.length
def dueA : AskV := ⟨6, 0, [], 0, 300, 0, 0, 2, 0, [], []⟩
def tikA : AskV := ⟨12, 1, [], 0, 0, 0, 0, 0, 0, [], []⟩
theorem due_right : rightA dueA = true := by decide
theorem due_put : putA dueA = [6, 0, 0, 0, 0, 0, 0, 0, 0, 0, 0, 0, 0, 0, 0, 0, 2, 1, 44] := by decide
theorem tick_right : rightA tikA = true := by decide
theorem tick_put : putA tikA = [12, 0, 0, 0, 0, 0, 0, 0, 1] := by decide
theorem zero_right : rightA AskV.zero = false := by decide
theorem tick_get : getA [12, 0, 0, 0, 0, 0, 0, 0, 1, 9] = some (tikA, 9) := by
  have h := aget_put tick_right (by decide) (by decide) [9]
  rw [tick_put] at h
  exact h
theorem ok_plain (k r q d l a t n : Int) (h0 : isByte k) (h1 : I64 r) (h2 : I64 q) (h3 : I64 d) (h4 : I64 l) (h5 : I64 a) (h6 : I64 t) (h7 : I64 n) : AskV.Ok ⟨k, r, [], q, d, l, a, t, n, [], []⟩ :=
  ⟨h0, h1, by unfold strOk; simp, h2, h3, h4, h5, h6, h7, by simp, by simp⟩
theorem nil_is (w : World) (a : AskV) (h1 : a.parts = []) (h2 : a.others = []) : AskIs w a AskS.nil :=
  ⟨by rw [h1]; exact ⟨CelR.none_ w, rfl, fun _ => ⟨rfl, rfl⟩, Nat.le_refl _, Nat.zero_le _⟩, by rw [h2]; exact ⟨CelR.none_ w, rfl, fun _ => ⟨rfl, rfl⟩, Nat.le_refl _, Nat.zero_le _⟩⟩
def greatB (a : AskV) : Bool := decide (10000 < a.item.length) || decide (1000 < a.parts.length) || decide (1000 < a.others.length)
set_option maxRecDepth 100000 in
set_option maxHeartbeats 1000000 in
theorem great_any (a : AskV) (S : AskS) (w : World) (h : AskIs w a S) : Calls Tryz.prog 35 #[.agg (askC a S)] w (RetNew (.bool (greatB a)) w) := by
  have hg : greatB a = (decide (10000 < (⟨a.item.toArray⟩ : ByteArray).size) || decide (1000 < S.P.n) || decide (1000 < S.O.n)) := by
    unfold greatB
    rw [h.parts.len, h.others.len]
    rfl
  have h1 := Nat.le_trans h.parts.le h.parts.max
  have h2 := Nat.le_trans h.others.le h.others.max
  unfold maxLen at h1 h2
  have hg' := Lib.hid hg
  clear h hg
  obtain ⟨kind, request, item, qty, day, days, rank, lot, line, parts, others⟩ := a
  obtain ⟨⟨PA, Pn, Pc⟩, ⟨OA, On, Oc⟩⟩ := S
  simp only at h1 h2 hg'
  unfold askC strV
  simp only
  generalize (⟨item.toArray⟩ : ByteArray) = str at *
  go_enter Tryz.func35, Tryz.ntmps35
  go_wp2
  all_goals
    go_ret
    refine ⟨ret_bool ?_, (Turned.refl _ w).alloc _⟩
    rw [hg'.out, Bool.eq_iff_iff]
    simp only [Bool.or_eq_true, decide_eq_true_eq, Bool.true_eq, Bool.false_eq_true]
    first
    | exact ⟨fun hh => by omega, fun hh => by omega⟩
    | exact ⟨fun _ => by omega, fun _ => trivial⟩
set_option maxRecDepth 100000 in
set_option maxHeartbeats 4000000 in
theorem awake13_any (w : World) (hK : KindsOk w) : Calls Tryz.prog 5 #[] w (OkNew w) := by
  have HP := ask_put_any dueA AskS.nil w (nil_is w dueA rfl rfl) (ok_plain 6 0 0 300 0 0 2 0 (by unfold isByte; decide) (by unfold I64; decide) (by unfold I64; decide) (by unfold I64; decide) (by unfold I64; decide) (by unfold I64; decide) (by unfold I64; decide) (by unfold I64; decide)) hK (by decide)
  unfold APut at HP
  rw [due_right, due_put] at HP
  have HP' := Lib.hid HP
  have hK' := Lib.hid (fun (w' : World) (ht : Turned (fun _ => False) w w') => hK.fresh ht)
  clear HP hK
  unfold askC dueA AskS.nil Sl.nil strV at HP'
  simp only [if_true] at HP'
  go_enter Tryz.func5, Tryz.ntmps5
  go_wp2_with fail
  refine HP'.out.mono ?_
  rintro e w1 ⟨A1, c1, rfl, o1, g1, t1⟩
  have O1 := Lib.hid o1
  have T1 := Lib.hid t1
  have l19 : ([6, 0, 0, 0, 0, 0, 0, 0, 0, 0, 0, 0, 0, 0, 0, 0, 2, 1, 44] : List Int).length = 19 := rfl
  rw [l19] at O1 ⊢
  clear o1 g1 t1 HP'
  go_wp2_with fail
  have tN := (Turned.refl (fun _ => False) w1).alloc (.cells #[.int .u8 12, .int .u8 0, .int .u8 0, .int .u8 0, .int .u8 0, .int .u8 0, .int .u8 0, .int .u8 0, .int .u8 1, .int .u8 9] 5)
  have hN := Blk.new w1 5 #[.int .u8 12, .int .u8 0, .int .u8 0, .int .u8 0, .int .u8 0, .int .u8 0, .int .u8 0, .int .u8 0, .int .u8 1, .int .u8 9]
  have hNr : RowB (w1.alloc (.cells #[.int .u8 12, .int .u8 0, .int .u8 0, .int .u8 0, .int .u8 0, .int .u8 0, .int .u8 0, .int .u8 0, .int .u8 1, .int .u8 9] 5)) 5 w1.heap.size 10 10 [12, 0, 0, 0, 0, 0, 0, 0, 1, 9] := ⟨rfl, Nat.le_refl _, by unfold maxLen; omega, _, hN, rfl, rfl⟩
  have hg := ask_get_any (some ⟨w1.heap.size, 0, none⟩) 10 10 [12, 0, 0, 0, 0, 0, 0, 0, 1, 9] (w1.alloc (.cells #[.int .u8 12, .int .u8 0, .int .u8 0, .int .u8 0, .int .u8 0, .int .u8 0, .int .u8 0, .int .u8 0, .int .u8 1, .int .u8 9] 5)) (OwnV.of_row hNr).bytS' (by unfold isByte; simp) (Nat.le_refl _) (by unfold maxLen; omega) (by omega) (hK'.out _ (T1.out.and_ tN))
  have T2 := Lib.hid (T1.out.and_ tN)
  have O2 := Lib.hid (O1.out.turned tN (fun _ _ e => e))
  refine hg.mono ?_
  clear hg hNr hN tN T1 O1
  rintro e w3 (⟨a3, n3, S3, h3, rfl, hown, _, t3⟩ | ⟨hno, _⟩)
  · rw [tick_get] at h3
    injection h3 with h3
    injection h3 with h3 hn3
    subst h3 hn3
    obtain ⟨⟨PA, Pn, Pc⟩, ⟨OA, On, Oc⟩⟩ := S3
    have T3 := Lib.hid (T2.out.and_ t3)
    have O3 := Lib.hid (O2.out.turned t3 (fun _ _ e => e))
    have BX := Lib.hid (show AskAt _ w3.heap.size tikA ⟨⟨PA, Pn, Pc⟩, ⟨OA, On, Oc⟩⟩ from Blk.new w3 29 (askC tikA ⟨⟨PA, Pn, Pc⟩, ⟨OA, On, Oc⟩⟩))
    have tX := Lib.hid ((Turned.refl (fun _ => False) w3).alloc (.cells (askC tikA ⟨⟨PA, Pn, Pc⟩, ⟨OA, On, Oc⟩⟩) 29))
    clear T2 O2 t3 hown
    unfold askC tikA strV at BX tX ⊢
    simp only at BX tX ⊢
    go_wp2_with fail
    have B4 := Lib.hid (Blk.new_at (k := w3.heap.size + 1) (w3.alloc (.cells #[.int .u8 12, .int .i64 1, .string ⟨#[]⟩, .int .i64 0, .int .i64 0, .int .i64 0, .int .i64 0, .int .i64 0, .int .i64 0, .slice PA Pn Pc, .slice OA On Oc] 29)) 5 #[.int .u8 6, .int .u8 0, .int .u8 0, .int .u8 0, .int .u8 0, .int .u8 0, .int .u8 0, .int .u8 0, .int .u8 0, .int .u8 0, .int .u8 0, .int .u8 0, .int .u8 0, .int .u8 0, .int .u8 0, .int .u8 0, .int .u8 2, .int .u8 1, .int .u8 44] (by simp))
    have t4 := (Turned.refl (fun _ => False) (w3.alloc (.cells #[.int .u8 12, .int .i64 1, .string ⟨#[]⟩, .int .i64 0, .int .i64 0, .int .i64 0, .int .i64 0, .int .i64 0, .int .i64 0, .slice PA Pn Pc, .slice OA On Oc] 29))).alloc (.cells #[.int .u8 6, .int .u8 0, .int .u8 0, .int .u8 0, .int .u8 0, .int .u8 0, .int .u8 0, .int .u8 0, .int .u8 0, .int .u8 0, .int .u8 0, .int .u8 0, .int .u8 0, .int .u8 0, .int .u8 0, .int .u8 0, .int .u8 2, .int .u8 1, .int .u8 44] 5)
    have T5 := Lib.hid (T3.out.and_ (tX.out.and_ t4))
    have O5 := Lib.hid ((O3.out.turned tX.out (fun _ _ e => e)).turned t4 (fun _ _ e => e))
    have A5 := Lib.hid (AskAt.fresh BX.out t4)
    have R5 : RowB _ 5 (w3.heap.size + 1) 19 19 [6, 0, 0, 0, 0, 0, 0, 0, 0, 0, 0, 0, 0, 0, 0, 0, 2, 1, 44] := ⟨rfl, Nat.le_refl _, by unfold maxLen; omega, _, B4.out, rfl, rfl⟩
    refine (same_yes A1 _ 19 19 c1 19 [6, 0, 0, 0, 0, 0, 0, 0, 0, 0, 0, 0, 0, 0, 0, 0, 2, 1, 44] [6, 0, 0, 0, 0, 0, 0, 0, 0, 0, 0, 0, 0, 0, 0, 0, 2, 1, 44] _ O5.out.bytS'.toBytR R5.bytR rfl).mono ?_
    rintro e w6 ⟨rfl, nq, rfl⟩
    have T6 := Lib.hid (T5.out.drewN nq)
    have A6 := Lib.hid (A5.out.fresh ((Turned.refl (fun _ => False) _).drewN nq))
    clear t4 T5 O5 A5 R5 B4 BX tX T3 O3
    obtain ⟨x0, x1, x2, x3, x4, x5, x6, x7, x8, x9, x10⟩ := A6.out.cells
    simp only at x0 x1 x2 x3 x4 x5 x6 x7 x8 x9 x10
    have HR := fun (w' : World) (ht : Turned (fun _ => False) w w') => ask_right_any AskV.zero AskS.nil w' (nil_is w' _ rfl rfl) (ok_plain 0 0 0 0 0 0 0 0 (by unfold isByte; decide) (by unfold I64; decide) (by unfold I64; decide) (by unfold I64; decide) (by unfold I64; decide) (by unfold I64; decide) (by unfold I64; decide) (by unfold I64; decide)) (hK'.out w' ht) (by decide)
    unfold askC AskS.nil Sl.nil strV at HR
    rw [zero_right] at HR
    unfold AskV.zero at HR
    simp only at HR
    have HR := Lib.hid HR
    go_wp2_with fail
    refine (HR.out _ T6.out).mono ?_
    rintro e w7 ⟨rfl, t7⟩
    have T7 := Lib.hid (T6.out.and_ t7)
    clear t7 T6 A6 HR x0 x1 x2 x3 x4 x5 x6 x7 x8 x9 x10
    go_wp2_with fail
    refine (changes_any 12 _ (by unfold isByte; decide)).mono ?_
    rintro e w8 ⟨rfl, rfl⟩
    go_wp2_with fail
    go_ret
    exact ⟨rfl, T7.out⟩
  · rw [tick_get] at hno
    cases hno
end Go.Proofs.YtijmfglgeaaoaaaGreatDoor

