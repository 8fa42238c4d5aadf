/-
  log.records: the Lsns of a sheet's records from a place on. Conditions: from there on the body is right records' bytes.
-/
import Derived.Test.YtfheikmjjijdpaaDoorLgC
import Derived.Test.YtfheikmjjijdpaaDoorRecH
import Derived.Test.YtfheikmjjijdpaaDoorRecZ
namespace Go.Proofs.YtfheikmjjijdpaaDoor
open Go.RowKit Go.Maps
set_option linter.unusedVariables false
set_option linter.unusedSimpArgs false

theorem i64T : EltT Tryd.prog 63 2 1 8 (.int .i64 0) := ⟨Tryd.underlying63, by kernel_rfl, rfl, by omega⟩
/-- The bytes of records. -/
def putsL (Rs : List Rec) : List Int := Rs.flatMap putR
theorem putsL_append (a b : List Rec) : putsL (a ++ b) = putsL a ++ putsL b := by simp [putsL]
/-- The Lsns of records that lie on a sheet from a place on. -/
def lsnsL (num : Int) : Nat → List Rec → List Int
  | _, [] => []
  | p, R :: rs => (num * 512 + (p : Int) + 1) :: lsnsL num (p + (putR R).length) rs
theorem lsnsL_append (num : Int) : ∀ (a : List Rec) (p : Nat) (b : List Rec), lsnsL num p (a ++ b) = lsnsL num p a ++ lsnsL num (p + (putsL a).length) b
  | [], p, b => by simp [lsnsL, putsL]
  | R :: rs, p, b => by
    have h := lsnsL_append num rs (p + (putR R).length) b
    simp only [List.cons_append, lsnsL, h]
    rw [show putsL (R :: rs) = putR R ++ putsL rs by simp [putsL], List.length_append, Nat.add_assoc]
theorem lsnsL_length (num : Int) : ∀ (a : List Rec) (p : Nat), (lsnsL num p a).length = a.length
  | [], p => rfl
  | R :: rs, p => by simp [lsnsL, lsnsL_length num rs]
def i64s (l : List Int) : List Value := l.map fun z => .int .i64 z
theorem i64s_app (a b : List Int) : i64s (a ++ b) = i64s a ++ i64s b := by simp [i64s]
theorem new1_news (w : World) (T : TypeId) (v : Value) : ∀ j x, ([v] : List Value)[j]? = some x → (w.alloc (.cells #[v] T)).cell? ((⟨w.heap.size, 0, none⟩ : Addr).add j) = some x := by
  intro j x hx
  rw [Addr.add_mid, Nat.zero_add, (Blk.new w T _).cell]
  simpa using hx
/-- Records that are right. -/
def AllOk (Rs : List Rec) : Prop := ∀ R ∈ Rs, rightR R = true ∧ R.Ok
theorem AllOk.bytes {Rs : List Rec} (h : AllOk Rs) : ∀ z ∈ putsL Rs, isByte z := by
  intro z hz
  obtain ⟨R, hR, hz⟩ := List.mem_flatMap.1 hz
  exact putR_bytes (h R hR).1 (h R hR).2 z hz
theorem puts_ge : ∀ {Rs : List Rec}, AllOk Rs → Rs.length ≤ (putsL Rs).length
  | [], _ => Nat.zero_le _
  | R :: rs, h => by
    have h1 := rput_len (h R (by simp)).1 (h R (by simp)).2
    have h2 := puts_ge (Rs := rs) (fun q hq => h q (by simp [hq]))
    rw [show putsL (R :: rs) = putR R ++ putsL rs by simp [putsL], List.length_append, List.length_cons]
    omega
def RcsRel (w : World) (num : Int) (p0 : Nat) (Rs : List Rec) (v a : Value) (wr : World) : Prop :=
  ∃ (j : Nat) (A : Option Addr) (c : Nat), j ≤ Rs.length ∧ a = .int .i64 ((p0 + (putsL (Rs.take j)).length : Nat) : Int) ∧ v = .slice A j c ∧ OwnE wr 2 1 A j c (i64s (lsnsL num p0 (Rs.take j))) ∧ (∀ g, A = some ⟨g, 0, none⟩ → w.heap.size ≤ g) ∧ Turned (fun _ => False) w wr
theorem take_at {Rs : List Rec} {j : Nat} (hj : j < Rs.length) : ∃ R, R ∈ Rs ∧ Rs.take (j + 1) = Rs.take j ++ [R] ∧ Rs = Rs.take j ++ R :: Rs.drop (j + 1) :=
  ⟨Rs[j], List.getElem_mem _, by rw [List.take_succ_eq_append_getElem hj], by rw [← List.drop_eq_getElem_cons hj, List.take_append_drop]⟩
set_option maxRecDepth 100000 in
set_option maxHeartbeats 2000000 in
theorem lrecords_any (g gb c : Nat) (num turn bef used safe : Int) (body pre : List Int) (lost : Bool) (Rs : List Rec) (w : World) (h : ShtIs w g gb c num turn bef used body safe lost) (he : body = pre ++ putsL Rs) (hR : AllOk Rs) (hn : 0 ≤ num ∧ num ≤ 9007199254740992) (hl : body.length ≤ 496) :
    Calls Tryd.prog 31 #[.pointer (some ⟨g, 0, none⟩), .int .i64 (pre.length : Int)] w (fun e w' => ∃ A c', e = .returned (.tuple #[.slice A Rs.length c', .bool true]) ∧ OwnE w' 2 1 A Rs.length c' (i64s (lsnsL num pre.length Rs)) ∧ (∀ g, A = some ⟨g, 0, none⟩ → w.heap.size ≤ g) ∧ Turned (fun _ => False) w w') := by
  have H := Lib.hid h
  have HE := Lib.hid he
  have HA := Lib.hid hR
  have HN := Lib.hid hn
  obtain ⟨n, hnn⟩ : ∃ n, n = body.length := ⟨_, rfl⟩
  have HL := Lib.hid hnn
  have hn5 : n ≤ 496 := by omega
  have hRn : Rs.length ≤ 496 := by have h1 := puts_ge hR; have h2 := congrArg List.length he; rw [List.length_append] at h2; omega
  have hni : (n : Int) ≤ 496 := by omega
  have hst := Lib.hid (show RcsRel w num pre.length Rs (.slice none 0 0) (.int .i64 (pre.length : Int)) w from ⟨0, none, 0, Nat.zero_le _, by simp [putsL], rfl, OwnE.nil _ _ _, (fun g e => by cases e), Turned.refl _ _⟩)
  have hC := Lib.hid (fun (w' : World) (t : Turned (fun _ => False) w w') => (by have := (h.blk.turned t (fun e => e)).cell 4; unfold shtC at this; rw [← hnn] at this; exact this : w'.cell? ⟨g, 4, none⟩ = some (.slice (some ⟨gb, 0, none⟩) n c)))
  have hC0 := Lib.hid (fun (w' : World) (t : Turned (fun _ => False) w w') => ((h.blk.turned t (fun e => e)).cell 0 : w'.cell? ⟨g, 0, none⟩ = some (.int .i64 num)))
  clear h he hR hn hnn hl
  go_enter Tryd.func31, Tryd.ntmps31
  go_wp2_with fail
  go_loopw [1, 6, 7, 8, 9] (fun a v _ _ _ wr => RcsRel w num pre.length Rs v a wr) (fun a _ _ _ _ _ => n - (intOf a).toNat)
  case atStart => exact hst.out
  case round =>
    obtain ⟨j, A, cA, hj, rfl, rfl, ho, hg, ht⟩ := hrel
    have O := Lib.hid ho
    have G := Lib.hid hg
    have T := Lib.hid ht
    have x4 := hC.out _ ht
    clear ho hg ht hst
    obtain ⟨p, hp⟩ : ∃ p, p = pre.length + (putsL (Rs.take j)).length := ⟨_, rfl⟩
    have HP := Lib.hid hp
    rw [← hp]
    clear hp
    by_cases hlt : j < Rs.length
    · obtain ⟨R, hm, htk, hsp⟩ := take_at hlt
      have hrk := HA.out R hm
      have hlen := rput_len hrk.1 hrk.2
      have hpu : putsL Rs = putsL (Rs.take j) ++ (putR R ++ putsL (Rs.drop (j + 1))) := (congrArg putsL hsp).trans (by rw [putsL_append]; simp [putsL])
      have hdr : body.drop p = putR R ++ putsL (Rs.drop (j + 1)) := by rw [HE.out, HP.out, hpu, ← List.append_assoc, List.drop_left' (by rw [List.length_append])]
      clear hpu
      have hpn : p + (putR R).length ≤ n := by have := congrArg List.length hdr; rw [List.length_drop, List.length_append, ← HL.out] at this; omega
      have hgp := get_put hrk.1 hrk.2 (putsL (Rs.drop (j + 1)))
      rw [← hdr] at hgp
      have HG := Lib.hid hgp
      have HK := Lib.hid htk
      obtain ⟨m, hmm⟩ : ∃ m, m = (putR R).length := ⟨_, rfl⟩
      rw [← hmm] at hlen hpn HG
      have HM := Lib.hid hmm
      have hbb : ∀ z ∈ body.drop p, isByte z := by rw [hdr]; exact app_bytes (putR_bytes hrk.1 hrk.2) (AllOk.bytes (fun q hq => HA.out q (List.mem_of_mem_drop hq)))
      have HB := Lib.hid hbb
      clear hdr hgp htk hmm hbb hsp hm hrk
      have hpi : (p : Int) < (n : Int) := by omega
      have hp5 : (p : Int) ≤ 496 := by omega
      have hr := H.out.bod.turned T.out (fun e => e)
      rw [← HL.out] at hr
      have hcn := hr.le
      have hcm := hr.max
      have hcp : ¬ c = p := by omega
      have hpc : p ≤ n := by omega
      have hpc2 : (p : Int) ≤ (n : Int) := by omega
      have hzs : BytS wr (some ⟨gb, p, none⟩) (n - p) (c - p) (body.drop p) := ⟨by have := BytR.take_ (p := p) (m := n - p) hr.bytR (by omega); rw [Nat.zero_add, List.take_of_length_le (by rw [List.length_drop, ← HL.out]; exact Nat.le_refl _)] at this; exact this, fun e => by cases e⟩
      have HZ := Lib.hid hzs
      have HQ := Lib.hid (And.intro (show n - p ≤ c - p by omega) (show c - p ≤ maxLen by omega))
      clear hr hzs hcm
      go_wp2_with fail
      refine (rget_any (some ⟨gb, p, none⟩) (n - p) (c - p) (body.drop p) wr HZ.out HB.out HQ.out.1 HQ.out.2).mono ?_
      rintro e w1 hpost
      rcases hpost with ⟨R1, n1, S1, hg1, rfl, _, t1⟩ | ⟨hg1, _, _⟩
      · rw [HG.out] at hg1
        injection hg1 with hg1
        injection hg1 with e1 e2
        subst e1 e2
        have T1 := Lib.hid (T.out.trans (W := fun _ => False) t1 (fun _ e => e) (fun _ e => e.elim))
        have U1 := Lib.hid t1
        clear t1
        unfold recC Rec.bare
        simp only
        have tq := (Turned.refl (fun _ => False) w1).alloc (.cells (recC R.bare S1) 39)
        unfold recC Rec.bare at tq
        simp only at tq
        have TQ := Lib.hid tq
        clear tq
        go_wp2_with fail
        refine (llsn_any g num p _ (cell_turned TQ.out (hC0.out _ T1.out) (fun e => e)) HN.out (by omega)).mono ?_
        rintro e w2 ⟨rfl, rfl⟩
        generalize w1.alloc _ = wq at *
        have VQ := Lib.hid (U1.out.trans (W := fun _ => False) TQ.out (fun _ e => e) (fun _ e => e.elim))
        have T3 := Lib.hid (T1.out.trans (W := fun _ => False) TQ.out (fun _ e => e) (fun _ e => e.elim))
        clear TQ T1 U1
        go_wp2_with (at_builtin; go_loud (refine wpList_appE i64T rfl (.tmp 30) (.tmp 34) rfl ((O.out.fresh VQ.out).fresh ((Turned.refl (fun _ => False) wq).alloc (.cells #[.int .i64 (num * 512 + (p : Int) + 1)] 2))) ⟨wq.heap.size, 0, none⟩ 1 1 [.int .i64 (num * 512 + (p : Int) + 1)] rfl (new1_news wq 2 _) (by simp [Value.oneCell']) (by omega) (by unfold maxLen; have := O.out.len; omega) (by omega) rfl rfl ?_; intro A4 c4 w4 o4 a4))
        have hm4 := a4.mine (T3.out.alloc _) G.out
        have hR := Lib.hid (show RcsRel w num pre.length Rs (.slice A4 (j + 1) c4) (.int .i64 ((p + m : Nat) : Int)) w4 from ⟨j + 1, A4, c4, hlt, by rw [HK.out, putsL_append, List.length_append, show putsL [R] = putR R by simp [putsL], ← HM.out, ← Nat.add_assoc, ← HP.out], rfl, by rw [HK.out, lsnsL_append, i64s_app, ← HP.out]; exact o4, hm4.2, hm4.1⟩)
        clear o4 a4 hm4
        go_wp2_with fail
        go_roundw
        case rel =>
          first
          | exact hR.out
          | ((repeat apply Exists.intro); exact ⟨hR.out, rfl⟩)
        case measure => simp [intOf] <;> omega
      · rw [HG.out] at hg1; cases hg1
    · obtain rfl : j = Rs.length := by omega
      have hpe : p = n := by rw [HP.out, HL.out, HE.out, List.take_length, List.length_append]
      subst hpe
      have F := Lib.hid O.out
      rw [List.take_length] at F
      go_wp2_with fail
      go_quiet (fail)
      go_wp2_with fail
      go_ret2
      exact ⟨A, cA, rfl, F.out.fresh ((Turned.refl (fun _ => False) wr).drewN nq), G.out, T.out.drewN nq⟩
end Go.Proofs.YtfheikmjjijdpaaDoor
