/-
  ytfheikmjjijdpaadoor: laws and walks on the road to LogKeeps, joined: RecZ LgD Off LgP. Conditions stand at each theorem.
-/
import Derived.Test.YtfheikmjjijdpaaDoorQRecF
import Derived.Test.YtfheikmjjijdpaaDoorQLgC
import Derived.Test.YtfheikmjjijdpaaDoorQRecH
import Derived.Test.YtfheikmjjijdpaaDoorQElt
import Derived.Test.YtfheikmjjijdpaaDoorQBeP
namespace Go.Proofs.YtfheikmjjijdpaaDoor
open Go.RowKit Go.Maps
set_option linter.unusedVariables false

theorem app_bytes {a b : List Int} (ha : ∀ z ∈ a, isByte z) (hb : ∀ z ∈ b, isByte z) : ∀ z ∈ a ++ b, isByte z := by
  intro z hz
  rcases List.mem_append.1 hz with h | h
  · exact ha z h
  · exact hb z h
theorem rowL_bytes {l : List Int} (h : ∀ z ∈ l, isByte z) (hl : l.length ≤ 255) : ∀ z ∈ rowL l, isByte z := by
  intro z hz
  rcases List.mem_cons.1 hz with rfl | h1
  · unfold isByte; omega
  · exact h z h1
theorem pairs_bytes (a : Nat) (l : List (Int × Int)) : ∀ z ∈ l.flatMap (pairL a), isByte z := by
  intro z hz
  obtain ⟨p, _, hp⟩ := List.mem_flatMap.1 hz
  exact app_bytes (be_byte _ _) (be_byte _ _) z hp
theorem putR_bytes {R : Rec} (hr : rightR R = true) (hk : R.Ok) : ∀ z ∈ putR R, isByte z := by
  rw [rput_yes hr]
  refine app_bytes (be_byte _ _) ?_
  have hkk := hk.kind
  have h1 := hk.key
  have h2 := hk.old
  have h3 := hk.new
  have hT : turnB R = true → ∀ z ∈ turnL R, isByte z := fun ht => by
    have hl := turnB_len ht
    exact app_bytes (rowL_bytes h1 (by omega)) (app_bytes (rowL_bytes h2 (by omega)) (rowL_bytes h3 (by omega)))
  intro z hz
  refine (List.mem_cons.1 hz).elim (fun e => by rw [e]; exact hkk) (fun hz => ?_)
  unfold restL at hz
  unfold rightR at hr
  by_cases h5 : R.kind = 5
  · rw [if_pos h5] at hz
    exact app_bytes (app_bytes (be_byte _ _) (pairs_bytes _ _)) (app_bytes (be_byte _ _) (pairs_bytes _ _)) z hz
  · rw [if_neg h5] at hr hz
    simp only [Bool.and_eq_true, decide_eq_true_eq] at hr
    have hkd := hr.2
    unfold kindB at hkd
    by_cases k1 : R.kind = 1
    · rw [if_pos k1] at hkd hz
      simp only [Bool.and_eq_true] at hkd
      exact app_bytes (be_byte _ _) (app_bytes (be_byte _ _) (app_bytes (be_byte _ _) (hT hkd.2))) z hz
    · rw [if_neg k1] at hkd hz
      by_cases k2 : R.kind = 2
      · rw [if_pos k2] at hkd hz
        simp only [Bool.and_eq_true] at hkd
        exact app_bytes (be_byte _ _) (app_bytes (be_byte _ _) (app_bytes (be_byte _ _) (app_bytes (be_byte _ _) (hT hkd.2)))) z hz
      · rw [if_neg k2] at hz
        by_cases k6 : R.kind = 6
        · rw [if_pos k6] at hz
          exact app_bytes (be_byte _ _) (app_bytes (be_byte _ _) (app_bytes (be_byte _ _) (be_byte _ _))) z hz
        · rw [if_neg k6, List.append_nil] at hz
          exact app_bytes (be_byte _ _) (be_byte _ _) z hz
theorem rput_len {R : Rec} (hr : rightR R = true) (hk : R.Ok) : 3 ≤ (putR R).length ∧ (putR R).length ≤ 1002 := by
  have h1 := body_len hr
  have h2 : 1 ≤ (bodyL R).length := by unfold bodyL; simp
  rw [rput_yes hr, List.length_append, be_length]
  omega
end Go.Proofs.YtfheikmjjijdpaaDoor

namespace Go.Proofs.YtfheikmjjijdpaaDoor
open Go.RowKit Go.Maps
set_option linter.unusedVariables false
set_option linter.unusedSimpArgs false

theorem i64T : EltT Tryd.prog 63 2 1 8 (.int .i64 0) := ⟨Tryd.underlying63, by kernel_rfl, rfl, by omega⟩
/-- The bytes of records. -/
def putsL (Rs : List Rec) : List Int := Rs.flatMap putR
theorem putsL_append (a b : List Rec) : putsL (a ++ b) = putsL a ++ putsL b := by simp [putsL]
/-- The Lsns of records that lie on a sheet from a place on. -/
def lsnsL (num : Int) : Nat → List Rec → List Int
  | _, [] => []
  | p, R :: rs => (num * 512 + (p : Int) + 1) :: lsnsL num (p + (putR R).length) rs
theorem lsnsL_append (num : Int) : ∀ (a : List Rec) (p : Nat) (b : List Rec), lsnsL num p (a ++ b) = lsnsL num p a ++ lsnsL num (p + (putsL a).length) b
  | [], p, b => by simp [lsnsL, putsL]
  | R :: rs, p, b => by
    have h := lsnsL_append num rs (p + (putR R).length) b
    simp only [List.cons_append, lsnsL, h]
    rw [show putsL (R :: rs) = putR R ++ putsL rs by simp [putsL], List.length_append, Nat.add_assoc]
theorem lsnsL_length (num : Int) : ∀ (a : List Rec) (p : Nat), (lsnsL num p a).length = a.length
  | [], p => rfl
  | R :: rs, p => by simp [lsnsL, lsnsL_length num rs]
def i64s (l : List Int) : List Value := l.map fun z => .int .i64 z
theorem i64s_app (a b : List Int) : i64s (a ++ b) = i64s a ++ i64s b := by simp [i64s]
theorem new1_news (w : World) (T : TypeId) (v : Value) : ∀ j x, ([v] : List Value)[j]? = some x → (w.alloc (.cells #[v] T)).cell? ((⟨w.heap.size, 0, none⟩ : Addr).add j) = some x := by
  intro j x hx
  rw [Addr.add_mid, Nat.zero_add, (Blk.new w T _).cell]
  simpa using hx
/-- Records that are right. -/
def AllOk (Rs : List Rec) : Prop := ∀ R ∈ Rs, rightR R = true ∧ R.Ok
theorem AllOk.bytes {Rs : List Rec} (h : AllOk Rs) : ∀ z ∈ putsL Rs, isByte z := by
  intro z hz
  obtain ⟨R, hR, hz⟩ := List.mem_flatMap.1 hz
  exact putR_bytes (h R hR).1 (h R hR).2 z hz
theorem puts_ge : ∀ {Rs : List Rec}, AllOk Rs → Rs.length ≤ (putsL Rs).length
  | [], _ => Nat.zero_le _
  | R :: rs, h => by
    have h1 := rput_len (h R (by simp)).1 (h R (by simp)).2
    have h2 := puts_ge (Rs := rs) (fun q hq => h q (by simp [hq]))
    rw [show putsL (R :: rs) = putR R ++ putsL rs by simp [putsL], List.length_append, List.length_cons]
    omega
def RcsRel (w : World) (num : Int) (p0 : Nat) (Rs : List Rec) (v a : Value) (wr : World) : Prop :=
  ∃ (j : Nat) (A : Option Addr) (c : Nat), j ≤ Rs.length ∧ a = .int .i64 ((p0 + (putsL (Rs.take j)).length : Nat) : Int) ∧ v = .slice A j c ∧ OwnE wr 2 1 A j c (i64s (lsnsL num p0 (Rs.take j))) ∧ (∀ g, A = some ⟨g, 0, none⟩ → w.heap.size ≤ g) ∧ Turned (fun _ => False) w wr
theorem take_at {Rs : List Rec} {j : Nat} (hj : j < Rs.length) : ∃ R, R ∈ Rs ∧ Rs.take (j + 1) = Rs.take j ++ [R] ∧ Rs = Rs.take j ++ R :: Rs.drop (j + 1) :=
  ⟨Rs[j], List.getElem_mem _, by rw [List.take_succ_eq_append_getElem hj], by rw [← List.drop_eq_getElem_cons hj, List.take_append_drop]⟩
set_option maxRecDepth 100000 in
set_option maxHeartbeats 2000000 in
theorem lrecords_any (g gb c : Nat) (num turn bef used safe : Int) (body pre : List Int) (lost : Bool) (Rs : List Rec) (w : World) (h : ShtIs w g gb c num turn bef used body safe lost) (he : body = pre ++ putsL Rs) (hR : AllOk Rs) (hn : 0 ≤ num ∧ num ≤ 9007199254740992) (hl : body.length ≤ 496) :
    Calls Tryd.prog 31 #[.pointer (some ⟨g, 0, none⟩), .int .i64 (pre.length : Int)] w (fun e w' => ∃ A c', e = .returned (.tuple #[.slice A Rs.length c', .bool true]) ∧ OwnE w' 2 1 A Rs.length c' (i64s (lsnsL num pre.length Rs)) ∧ (∀ g, A = some ⟨g, 0, none⟩ → w.heap.size ≤ g) ∧ Turned (fun _ => False) w w') := by
  have H := Lib.hid h
  have HE := Lib.hid he
  have HA := Lib.hid hR
  have HN := Lib.hid hn
  obtain ⟨n, hnn⟩ : ∃ n, n = body.length := ⟨_, rfl⟩
  have HL := Lib.hid hnn
  have hn5 : n ≤ 496 := by omega
  have hRn : Rs.length ≤ 496 := by have h1 := puts_ge hR; have h2 := congrArg List.length he; rw [List.length_append] at h2; omega
  have hni : (n : Int) ≤ 496 := by omega
  have hst := Lib.hid (show RcsRel w num pre.length Rs (.slice none 0 0) (.int .i64 (pre.length : Int)) w from ⟨0, none, 0, Nat.zero_le _, by simp [putsL], rfl, OwnE.nil _ _ _, (fun g e => by cases e), Turned.refl _ _⟩)
  have hC := Lib.hid (fun (w' : World) (t : Turned (fun _ => False) w w') => (by have := (h.blk.turned t (fun e => e)).cell 4; unfold shtC at this; rw [← hnn] at this; exact this : w'.cell? ⟨g, 4, none⟩ = some (.slice (some ⟨gb, 0, none⟩) n c)))
  have hC0 := Lib.hid (fun (w' : World) (t : Turned (fun _ => False) w w') => ((h.blk.turned t (fun e => e)).cell 0 : w'.cell? ⟨g, 0, none⟩ = some (.int .i64 num)))
  clear h he hR hn hnn hl
  go_enter Tryd.func31, Tryd.ntmps31
  go_wp2_with fail
  go_loopw [1, 6, 7, 8, 9] (fun a v _ _ _ wr => RcsRel w num pre.length Rs v a wr) (fun a _ _ _ _ _ => n - (intOf a).toNat)
  case atStart => exact hst.out
  case round =>
    obtain ⟨j, A, cA, hj, rfl, rfl, ho, hg, ht⟩ := hrel
    have O := Lib.hid ho
    have G := Lib.hid hg
    have T := Lib.hid ht
    have x4 := hC.out _ ht
    clear ho hg ht hst
    obtain ⟨p, hp⟩ : ∃ p, p = pre.length + (putsL (Rs.take j)).length := ⟨_, rfl⟩
    have HP := Lib.hid hp
    rw [← hp]
    clear hp
    by_cases hlt : j < Rs.length
    · obtain ⟨R, hm, htk, hsp⟩ := take_at hlt
      have hrk := HA.out R hm
      have hlen := rput_len hrk.1 hrk.2
      have hpu : putsL Rs = putsL (Rs.take j) ++ (putR R ++ putsL (Rs.drop (j + 1))) := (congrArg putsL hsp).trans (by rw [putsL_append]; simp [putsL])
      have hdr : body.drop p = putR R ++ putsL (Rs.drop (j + 1)) := by rw [HE.out, HP.out, hpu, ← List.append_assoc, List.drop_left' (by rw [List.length_append])]
      clear hpu
      have hpn : p + (putR R).length ≤ n := by have := congrArg List.length hdr; rw [List.length_drop, List.length_append, ← HL.out] at this; omega
      have hgp := get_put hrk.1 hrk.2 (putsL (Rs.drop (j + 1)))
      rw [← hdr] at hgp
      have HG := Lib.hid hgp
      have HK := Lib.hid htk
      obtain ⟨m, hmm⟩ : ∃ m, m = (putR R).length := ⟨_, rfl⟩
      rw [← hmm] at hlen hpn HG
      have HM := Lib.hid hmm
      have hbb : ∀ z ∈ body.drop p, isByte z := by rw [hdr]; exact app_bytes (putR_bytes hrk.1 hrk.2) (AllOk.bytes (fun q hq => HA.out q (List.mem_of_mem_drop hq)))
      have HB := Lib.hid hbb
      clear hdr hgp htk hmm hbb hsp hm hrk
      have hpi : (p : Int) < (n : Int) := by omega
      have hp5 : (p : Int) ≤ 496 := by omega
      have hr := H.out.bod.turned T.out (fun e => e)
      rw [← HL.out] at hr
      have hcn := hr.le
      have hcm := hr.max
      have hcp : ¬ c = p := by omega
      have hpc : p ≤ n := by omega
      have hpc2 : (p : Int) ≤ (n : Int) := by omega
      have hzs : BytS wr (some ⟨gb, p, none⟩) (n - p) (c - p) (body.drop p) := ⟨by have := BytR.take_ (p := p) (m := n - p) hr.bytR (by omega); rw [Nat.zero_add, List.take_of_length_le (by rw [List.length_drop, ← HL.out]; exact Nat.le_refl _)] at this; exact this, fun e => by cases e⟩
      have HZ := Lib.hid hzs
      have HQ := Lib.hid (And.intro (show n - p ≤ c - p by omega) (show c - p ≤ maxLen by omega))
      clear hr hzs hcm
      go_wp2_with fail
      refine (rget_any (some ⟨gb, p, none⟩) (n - p) (c - p) (body.drop p) wr HZ.out HB.out HQ.out.1 HQ.out.2).mono ?_
      rintro e w1 hpost
      rcases hpost with ⟨R1, n1, S1, hg1, rfl, _, t1⟩ | ⟨hg1, _, _⟩
      · rw [HG.out] at hg1
        injection hg1 with hg1
        injection hg1 with e1 e2
        subst e1 e2
        have T1 := Lib.hid (T.out.and_ t1)
        have U1 := Lib.hid t1
        clear t1
        unfold recC Rec.bare
        simp only
        have tq := (Turned.refl (fun _ => False) w1).alloc (.cells (recC R.bare S1) 39)
        unfold recC Rec.bare at tq
        simp only at tq
        have TQ := Lib.hid tq
        clear tq
        go_wp2_with fail
        refine (llsn_any g num p _ (cell_turned TQ.out (hC0.out _ T1.out) (fun e => e)) HN.out (by omega)).mono ?_
        rintro e w2 ⟨rfl, rfl⟩
        generalize w1.alloc _ = wq at *
        have VQ := Lib.hid (U1.out.and_ TQ.out)
        have T3 := Lib.hid (T1.out.and_ TQ.out)
        clear TQ T1 U1
        go_wp2_with (at_builtin; go_loud (refine wpList_appE i64T rfl (.tmp 30) (.tmp 34) rfl ((O.out.fresh VQ.out).fresh ((Turned.refl (fun _ => False) wq).alloc (.cells #[.int .i64 (num * 512 + (p : Int) + 1)] 2))) ⟨wq.heap.size, 0, none⟩ 1 1 [.int .i64 (num * 512 + (p : Int) + 1)] rfl (new1_news wq 2 _) (by simp [Value.oneCell']) (by omega) (by unfold maxLen; have := O.out.len; omega) (by omega) rfl rfl ?_; intro A4 c4 w4 o4 a4))
        have hm4 := a4.mine (T3.out.alloc _) G.out
        have hR := Lib.hid (show RcsRel w num pre.length Rs (.slice A4 (j + 1) c4) (.int .i64 ((p + m : Nat) : Int)) w4 from ⟨j + 1, A4, c4, hlt, by rw [HK.out, putsL_append, List.length_append, show putsL [R] = putR R by simp [putsL], ← HM.out, ← Nat.add_assoc, ← HP.out], rfl, by rw [HK.out, lsnsL_append, i64s_app, ← HP.out]; exact o4, hm4.2, hm4.1⟩)
        clear o4 a4 hm4
        go_wp2_with fail
        go_roundw
        case rel =>
          first
          | exact hR.out
          | ((repeat apply Exists.intro); exact ⟨hR.out, rfl⟩)
        case measure => simp [intOf] <;> omega
      · rw [HG.out] at hg1; cases hg1
    · obtain rfl : j = Rs.length := by omega
      have hpe : p = n := by rw [HP.out, HL.out, HE.out, List.take_length, List.length_append]
      subst hpe
      have F := Lib.hid O.out
      rw [List.take_length] at F
      go_wp2_with fail
      go_quiet (fail)
      go_wp2_with fail
      go_ret2
      exact ⟨A, cA, rfl, F.out.fresh ((Turned.refl (fun _ => False) wr).drewN nq), G.out, T.out.drewN nq⟩
end Go.Proofs.YtfheikmjjijdpaaDoor

namespace Go.Proofs.YtfheikmjjijdpaaDoor
open Go.RowKit Go.Maps
set_option linter.unusedVariables false

/-- n elements of q cells each, from cell o of block g on; there is room for cap of them. -/
structure RowO (w : World) (U q g o n cap : Nat) (xs : List Value) : Prop where
  len : xs.length = n * q
  le : n ≤ cap
  max : cap ≤ maxLen
  row : ∃ cs, Blk w g U cs ∧ cs.size = o + cap * q ∧ (cs.toList.drop o).take (n * q) = xs
section
variable {w w' : World} {U q g o n cap : Nat} {xs : List Value}
theorem RowO.lt (h : RowO w U q g o n cap xs) : g < w.heap.size := let ⟨_, hb, _⟩ := h.row; hb.lt
theorem RowO.turned {W : Nat → Prop} (h : RowO w U q g o n cap xs) (ht : Turned W w w') (hg : ¬ W g) : RowO w' U q g o n cap xs :=
  let ⟨cs, hb, r⟩ := h.row; ⟨h.len, h.le, h.max, cs, hb.turned ht hg, r⟩
theorem RowO.fresh (h : RowO w U q g o n cap xs) (ht : Turned (fun _ => False) w w') : RowO w' U q g o n cap xs := h.turned ht (fun e => e)
theorem RowO.of_row (h : RowE w U q g n cap xs) : RowO w U q g 0 n cap xs := by
  obtain ⟨cs, hb, hs, ht⟩ := h.row
  exact ⟨h.len, h.le, h.max, cs, hb, by rw [Nat.zero_add]; exact hs, by rw [List.drop_zero]; exact ht⟩
theorem RowO.cell? (h : RowO w U q g o n cap xs) {i : Nat} (hi : i < n * q) : w.cell? ⟨g, o + i, none⟩ = xs[i]? := by
  obtain ⟨cs, hb, hs, ht⟩ := h.row
  rw [hb.cell, ← ht, List.getElem?_take, if_pos hi, List.getElem?_drop]
  simp
theorem RowO.cell (h : RowO w U q g o n cap xs) {i : Nat} {v : Value} (hv : xs[i]? = some v) : w.cell? ⟨g, o + i, none⟩ = some v := by
  have hi := (List.getElem?_eq_some_iff.1 hv).1
  rw [h.len] at hi
  rw [h.cell? hi, hv]
theorem RowO.frozen (h : RowO w U q g o n cap xs) (i : Nat) : w.frozen? ⟨g, i, none⟩ = false := let ⟨_, hb, _⟩ := h.row; hb.frozen i
theorem RowO.cut (h : RowO w U q g o n cap xs) {k : Nat} (hk : k ≤ n) : RowO w U q g o k cap (xs.take (k * q)) := by
  obtain ⟨cs, hb, hs, ht⟩ := h.row
  have hkq : k * q ≤ n * q := Nat.mul_le_mul_right _ hk
  refine ⟨by rw [List.length_take, h.len]; omega, Nat.le_trans hk h.le, h.max, cs, hb, hs, ?_⟩
  rw [← ht, List.take_take, Nat.min_eq_left hkq]
theorem RowO.drop (h : RowO w U q g o n cap xs) {k : Nat} (hk : k ≤ n) : RowO w U q g (o + k * q) (n - k) (cap - k) (xs.drop (k * q)) := by
  obtain ⟨cs, hb, hs, ht⟩ := h.row
  have hkq : k * q ≤ n * q := Nat.mul_le_mul_right _ hk
  have hle := h.le
  have hkc : k * q ≤ cap * q := Nat.mul_le_mul_right _ (by omega)
  refine ⟨by rw [List.length_drop, h.len, Nat.sub_mul], by omega, by have := h.max; omega, cs, hb, by rw [hs, Nat.sub_mul]; omega, ?_⟩
  rw [← ht, List.drop_take, List.drop_drop, Nat.sub_mul]
theorem RowO.celR (h : RowO w U q g o n cap xs) : CelR w (some ⟨g, o, none⟩) (n * q) xs := ⟨h.len, fun _ => ⟨g, o, rfl, fun j hj => h.cell? hj⟩⟩
end
/-- Such a row, or nil. -/
def OwnO (w : World) (U q : Nat) (A : Option Addr) (n c : Nat) (xs : List Value) : Prop := (A = none ∧ n = 0 ∧ c = 0 ∧ xs = []) ∨ ∃ g o, A = some ⟨g, o, none⟩ ∧ RowO w U q g o n c xs
section
variable {w w' : World} {U q : Nat} {A : Option Addr} {n c : Nat} {xs : List Value}
theorem OwnO.nil (w : World) (U q : Nat) : OwnO w U q none 0 0 [] := .inl ⟨rfl, rfl, rfl, rfl⟩
theorem OwnO.of_row {g o : Nat} (h : RowO w U q g o n c xs) : OwnO w U q (some ⟨g, o, none⟩) n c xs := .inr ⟨g, o, rfl, h⟩
theorem OwnO.of_own (h : OwnE w U q A n c xs) : OwnO w U q A n c xs := by
  rcases h.row_or with h0 | ⟨g, rfl, h0⟩
  · exact .inl h0
  · exact .inr ⟨g, 0, rfl, RowO.of_row h0⟩
theorem OwnO.len (h : OwnO w U q A n c xs) : xs.length = n * q := by
  rcases h with ⟨_, rfl, _, rfl⟩ | ⟨_, _, _, h⟩
  · simp
  · exact h.len
theorem OwnO.max (h : OwnO w U q A n c xs) : n ≤ c ∧ c ≤ maxLen := by
  rcases h with ⟨_, rfl, rfl, _⟩ | ⟨_, _, _, h⟩
  · exact ⟨Nat.le_refl _, Nat.zero_le _⟩
  · exact ⟨h.le, h.max⟩
theorem OwnO.some_ (h : OwnO w U q A n c xs) (hn : 0 < n) : ∃ g o, A = some ⟨g, o, none⟩ ∧ RowO w U q g o n c xs := by
  rcases h with ⟨_, rfl, _⟩ | h
  · omega
  · exact h
theorem OwnO.turned {W : Nat → Prop} (h : OwnO w U q A n c xs) (ht : Turned W w w') (hW : ∀ g o, A = some ⟨g, o, none⟩ → ¬ W g) : OwnO w' U q A n c xs := by
  rcases h with h | ⟨g, o, rfl, h⟩
  · exact .inl h
  · exact .inr ⟨g, o, rfl, h.turned ht (hW g _ rfl)⟩
theorem OwnO.fresh (h : OwnO w U q A n c xs) (ht : Turned (fun _ => False) w w') : OwnO w' U q A n c xs := h.turned ht (fun _ _ _ e => e)
theorem OwnO.celR (h : OwnO w U q A n c xs) : CelR w A (n * q) xs := by
  rcases h with ⟨rfl, rfl, rfl, rfl⟩ | ⟨g, o, rfl, h⟩
  · rw [Nat.zero_mul]; exact CelR.none_ w
  · exact h.celR
theorem OwnO.cut (h : OwnO w U q A n c xs) {k : Nat} (hk : k ≤ n) : OwnO w U q A k c (xs.take (k * q)) := by
  rcases h with ⟨rfl, rfl, rfl, rfl⟩ | ⟨g, o, rfl, h⟩
  · exact .inl ⟨rfl, by omega, rfl, by simp⟩
  · exact .inr ⟨g, o, rfl, h.cut hk⟩
theorem OwnO.drop {g o : Nat} (h : OwnO w U q (some ⟨g, o, none⟩) n c xs) {k : Nat} (hk : k ≤ n) : OwnO w U q (some ⟨g, o + k * q, none⟩) (n - k) (c - k) (xs.drop (k * q)) := by
  rcases h with ⟨e, _⟩ | ⟨g', o', e, h⟩
  · cases e
  · injection e with e
    injection e with e1 e2
    subst e1 e2
    have := h.drop hk
    exact .inr ⟨g, _, rfl, this⟩
theorem OwnO.lt {g o : Nat} (h : OwnO w U q A n c xs) (hA : A = some ⟨g, o, none⟩) : g < w.heap.size := by
  subst hA
  rcases h with ⟨e, _⟩ | ⟨g', o', e, h⟩
  · cases e
  · injection e with e
    injection e with e1 e2
    subst e1
    exact h.lt
theorem OwnO.blkAt {g o : Nat} (h : OwnO w U q A n c xs) (hA : A = some ⟨g, o, none⟩) : ∃ cs, Blk w g U cs := by
  subst hA
  rcases h with ⟨e, _⟩ | ⟨g', o', e, h⟩
  · cases e
  · injection e with e
    injection e with e1 e2
    subst e1
    obtain ⟨cs, hb, _⟩ := h.row
    exact ⟨cs, hb⟩
theorem OwnO.blk {g o L : Nat} {T : TypeId} {cs : Array Value} (h : OwnO w U q A n c xs) (hL : Blk w L T cs) (hT : T ≠ U) (hA : A = some ⟨g, o, none⟩) : g ≠ L := by
  subst hA
  rcases h with ⟨e, _⟩ | ⟨g', o', e, h⟩
  · cases e
  · injection e with e
    injection e with e1 e2
    subst e1
    obtain ⟨cs', hb, _⟩ := h.row
    rintro rfl
    exact hT (Blk.inj hL hb).2
end
/-- What an append to such a row hands back: the same place, or a new one. -/
def App3 (w w' : World) (A A' : Option Addr) (c c' : Nat) : Prop := (A' = A ∧ c' = c ∧ A ≠ none ∧ Turned (fun g => ∃ o, A = some ⟨g, o, none⟩) w w') ∨ (A' = some ⟨w.heap.size, 0, none⟩ ∧ Turned (fun _ => False) w w')
theorem App3.turned {w w' : World} {A A' : Option Addr} {c c' : Nat} (h : App3 w w' A A' c c') : Turned (fun g => ∃ o, A = some ⟨g, o, none⟩) w w' := by
  rcases h with ⟨_, _, _, h⟩ | ⟨_, h⟩
  · exact h
  · exact h.mono (fun _ e => e.elim)
section
variable {P : Program} {w : World} {S U q bytes : Nat} {z : Value} {A : Option Addr} {n c : Nat} {xs : List Value}
theorem run_append_roomO (w : World) (t ty e : TypeId) (i : TypeInfo) (ht : P.underlying t = some (.slice e)) (hi : P.info? e = some i)
    (g off sLen sCap : Nat) (cur : Array Value) (hg : w.heap[g]? = some (.cells cur e (0, 0)))
    (a : Addr) (m c : Nat) (news : List Value) (hl : news.length = m * i.size) (hnews : ∀ j u, news[j]? = some u → w.cell? (a.add j) = some u) (h1 : ∀ u ∈ news, u.oneCell' = true)
    (hroom : sLen + m ≤ sCap) (hfit : off + sLen * i.size + news.length ≤ cur.size) :
    (Builtin.append_ #[t, t] ty #[.slice (some ⟨g, off, none⟩) sLen sCap, .slice (some a) m c]).run P w =
      .ok (.slice (some ⟨g, off, none⟩) (sLen + m) sCap) (w.setRow g (cur.toList.take (off + sLen * i.size) ++ news ++ cur.toList.drop (off + sLen * i.size + news.length)).toArray) := by
  have hf := run_firstCells_some (P := P) w i.size m a m c news hl hnews
  have hst := run_storeCells_at P g (off + sLen * i.size) e news 0 cur w hg (by simpa using hfit) h1
  simp only [Nat.add_zero] at hst
  simp [Builtin.append_, run_underlying ht, sizeOf, typeInfo, hi, Builtin.lenOf, hroom, hf, Addr.add_lit, hst]
theorem run_appO (E : EltT P S U q bytes z) {ty : TypeId} (h : OwnO w U q A n c xs) (ad : Addr) (m cc : Nat) (ys : List Value) (hl : ys.length = m * q) (hnews : ∀ j u, ys[j]? = some u → w.cell? (ad.add j) = some u) (h1 : ∀ u ∈ ys, u.oneCell' = true) (hm : 0 < m) (hmx : n + m ≤ maxLen) (hb : (n + m) * bytes ≤ 140737488355328) :
    ∃ A' c' w', (Builtin.append_ #[S, S] ty #[.slice A n c, .slice (some ad) m cc]).run P w = .ok (.slice A' (n + m) c') w' ∧ OwnO w' U q A' (n + m) c' (xs ++ ys) ∧ App3 w w' A A' c c' := by
  rcases h with ⟨rfl, rfl, rfl, rfl⟩ | ⟨g, o, rfl, hr⟩
  · obtain ⟨A', c', w', hrun, ho, ha⟩ := run_appE (ty := ty) E (OwnE.nil w U q) ad m cc ys hl hnews h1 hm hmx hb
    refine ⟨A', c', w', hrun, OwnO.of_own ho, ?_⟩
    rcases ha with ⟨_, _, e, _⟩ | ha
    · exact absurd rfl e
    · exact .inr ha
  · obtain ⟨i, hi, hz0, hz1, hz2⟩ := info_parts E.info
    obtain ⟨cs, hB, hs, htk⟩ := hr.row
    have hxl := hr.len
    have hle := hr.le
    by_cases hroom : n + m ≤ c
    · have hq : o + n * q + ys.length ≤ cs.size := by rw [hl, hs, Nat.add_assoc, ← Nat.add_mul]; exact Nat.add_le_add_left (Nat.mul_le_mul_right _ (by omega)) _
      have hrun := run_append_roomO (P := P) w S ty U i E.und hi g o n c cs hB ad m cc ys (by rw [hz1]; exact hl) hnews h1 hroom (by rw [hz1]; exact hq)
      rw [hz1] at hrun
      have hlen : (cs.toList.take ((o + n * q)) ++ ys ++ cs.toList.drop ((o + n * q) + ys.length)).length = cs.size := by
        rw [List.length_append, List.length_append, List.length_take, List.length_drop, Array.length_toList]
        omega
      refine ⟨_, c, _, hrun, .inr ⟨g, o, rfl, by rw [List.length_append, hxl, hl, Nat.add_mul], hroom, hr.max, _, setRow_heap w g cs _ U _ hB, ?_, ?_⟩, .inl ⟨rfl, rfl, by simp, ?_⟩⟩
      · rw [List.size_toArray, hlen, hs]
      · rw [List.toList_toArray, List.append_assoc, List.drop_append, List.drop_take, List.length_take, Array.length_toList]
        have h2 : (o + n * q) - o = n * q := by omega
        have h4 : o - min ((o + n * q)) cs.size = 0 := by omega
        rw [h2, htk, h4, List.drop_zero, ← List.append_assoc, List.take_left' (by rw [List.length_append, hxl, hl, Nat.add_mul])]
      · exact (Turned.refl _ w).grown (row := some g) ⟨rfl, rfl, rfl, by simp, fun k hk h' => setRow_other w g k _ (fun e => h' (by rw [e]))⟩ (fun k e => by injection e with e; subst e; exact .inl ⟨_, rfl⟩)
    · have hrun := run_append_grow (P := P) w S ty U i z E.und hi hz0 ⟨g, o, none⟩ n c xs (by rw [hxl, hz1]) (hr.celR.news _ rfl) ad m cc ys (by rw [hl, hz1]) hnews (by omega) (by unfold maxLen at hmx; omega) (by rw [hz2]; exact growslice_fits (by omega) hb)
      have hge := grownCap_ge w (n + m) c U
      have hcm : grownCap w (n + m) c U ≤ maxLen := grownCap_le_maxLen w (n + m) c U hmx
      refine ⟨_, _, _, hrun, OwnO.of_own (OwnE.of_row ⟨by rw [List.length_append, hxl, hl, Nat.add_mul], hge, hcm, _, heap_alloc_new w.drew _, ?_, ?_⟩), .inr ⟨rfl, (Turned.refl _ w).drew.alloc _⟩⟩
      · simp only [Array.size_append, List.size_toArray, size_zeroCells, hxl, hl, E.size]
        rw [← Nat.add_mul, ← Nat.add_mul]
        congr 1
        omega
      · simp only [Array.toList_append]
        rw [List.take_left' (by simp [hxl, hl, Nat.add_mul])]
theorem wpList_appO {ops : Array Oper} {rest : List Oper} {o : Oper} {a : Act} {Q : Exit → Act → World → Prop} (E : EltT P S U q bytes z) (hgd : o.guard = none) (s x : Operand) (ho : o.op = .call { callee := .builtin .append, args := #[s, x], argTypes := #[S, S] })
    (h : OwnO w U q A n c xs) (ad : Addr) (m cc : Nat) (ys : List Value) (hl : ys.length = m * q) (hnews : ∀ j u, ys[j]? = some u → w.cell? (ad.add j) = some u) (h1 : ∀ u ∈ ys, u.oneCell' = true) (hm : 0 < m) (hmx : n + m ≤ maxLen) (hb : (n + m) * bytes ≤ 140737488355328) (hs : a.eval s = .slice A n c) (hx : a.eval x = .slice (some ad) m cc)
    (hC : ∀ A' c' w', OwnO w' U q A' (n + m) c' (xs ++ ys) → App3 w w' A A' c c' → wpList P ops Q rest (a.put o.dst (.slice A' (n + m) c')) w') : wpList P ops Q (o :: rest) a w := by
  obtain ⟨A', c', w', hrun, h2, h3⟩ := run_appO (ty := o.type) E h ad m cc ys hl hnews h1 hm hmx hb
  exact Lib.wpList_append_run w hgd s x S S ho _ _ hs hx _ _ hrun (hC A' c' w' h2 h3)
end
end Go.Proofs.YtfheikmjjijdpaaDoor

namespace Go.Proofs.YtfheikmjjijdpaaDoor

end Go.Proofs.YtfheikmjjijdpaaDoor

