/-
  ytijmfglgeaaoaaagreatdoor: laws and walks on the road to AskNumbers, joined: AcN ALd. Conditions stand at each theorem.
-/
import Derived.Test.YtijmfglgeaaoaaaGreatDoorQAcP
import Derived.Test.YtijmfglgeaaoaaaGreatDoorQAcK
import Derived.Test.YtijmfglgeaaoaaaGreatDoorQSmA
import Derived.Test.YtijmfglgeaaoaaaGreatDoorQAskB
import Derived.Test.YtijmfglgeaaoaaaGreatDoorTie
import Derived.ProofKit
import Derived.OpenShut
import Derived.LaidMore
import Derived.Lay
import Derived.SevenTiedAt
import Derived.Stop.Joined
import Derived.Stop.LaidErr
import Derived.Lib.LaidTab
namespace Go.Proofs.YtijmfglgeaaoaaaGreatDoor
open Go.RowKit Go.Maps
set_option linter.unusedVariables false
set_option linter.unusedSimpArgs false

theorem someA_parts (i : Nat) : (someA i).parts.length ≤ 1000000 := by
  unfold someA
  split <;> simp [eightP]
theorem LisW.le {w : World} {B : Nat} {a : AskV} {S : AskS} (h : AskOwn w B a S) {g : Nat} (hg : LisW S g) : B ≤ g := by
  rcases hg with e | e
  · exact h.pB g e
  · exact h.oB g e
set_option maxRecDepth 100000 in
set_option maxHeartbeats 4000000 in
theorem askNumbers_any (w : World) (hKs : KindsOk w) : Calls Tryz.prog 4 #[] w (OkNew w) := by
  have KS := Lib.hid hKs
  clear hKs
  go_enter Tryz.func4, Tryz.ntmps4
  go_wp2_with fail
  refine (some_any w).mono ?_
  rintro e w1 ⟨g, A8, c8, gk, go, rfl, hs, t1⟩
  have S1 := Lib.hid hs
  have T1 := Lib.hid t1
  clear hs t1
  go_wp2_with fail
  go_loopw [2] (fun i wr => ∃ k : Nat, k ≤ 17 ∧ i = .int .i64 k ∧ SomeIs wr w.heap.size g A8 c8 gk go ∧ Turned (fun _ => False) w wr) (fun i _ => 17 - (intOf i).toNat)
  case atStart => exact ⟨0, by omega, rfl, S1.out, T1.out⟩
  case round =>
    obtain ⟨i, hi, rfl, si, ti⟩ := hrel
    have Si := Lib.hid si
    have Ti := Lib.hid ti
    clear si ti S1 T1
    by_cases hlt8 : i < 17
    · skip
      have hi8 : (i : Int) < 17 := by omega
      have HRi := Lib.hid (someA_right i)
      have HOi := Lib.hid (someA_ok i)
      have HPi := Lib.hid (someA_parts i)
      have HFi := Lib.hid (some_few A8 c8 gk go i)
      have HC := Lib.hid (fun (w' : World) (s : SomeIs w' w.heap.size g A8 c8 gk go) => And.intro (some_cells s.list i hlt8) (s.own i hlt8))
      have HT := Lib.hid (fun (w' w'' : World) (s : SomeIs w' w.heap.size g A8 c8 gk go) (t : Turned (LisW (someS A8 c8 gk go i)) w' w'') (ho : AskOwn w'' w.heap.size (someA i) (someS A8 c8 gk go i)) => s.turned hlt8 t ho)
      generalize someA i = R at HRi HOi HPi HFi HC HT
      generalize someS A8 c8 gk go i = Sc at HFi HC HT
      obtain ⟨kind, request, item, qty, day, days, rank, lot, line, parts, others⟩ := R
      obtain ⟨⟨PA, Pn, Pc⟩, ⟨QA, On, Oc⟩⟩ := Sc
      skip
      go_wp2_with fail
      go_loopw [3] (fun i wr => ∃ k : Nat, k ≤ 29 ∧ i = .int .i64 k ∧ SomeIs wr w.heap.size g A8 c8 gk go ∧ Turned (fun _ => False) w wr) (fun n _ => 29 - (intOf n).toNat)
      case atStart => exact ⟨0, by omega, rfl, Si.out, Ti.out⟩
      case round =>
        obtain ⟨n, hn, rfl, sn, tn⟩ := hrel
        have Sn := Lib.hid sn
        have Tn := Lib.hid tn
        clear sn tn Si Ti
        by_cases hlt28 : n < 29
        · have hn28 : (n : Int) < 29 := by omega
          have hcl := (HC.out _ Sn.out).1
          unfold CelsA askC strV at hcl
          have x0 : wr.cell? ⟨g, i * 11, none⟩ = some (.int .u8 kind) := hcl 0 (by decide)
          have x1 : wr.cell? ⟨g, i * 11 + 1, none⟩ = some (.int .i64 request) := hcl 1 (by decide)
          have x2 : wr.cell? ⟨g, i * 11 + 2, none⟩ = some (.string ⟨item.toArray⟩) := hcl 2 (by decide)
          have x3 : wr.cell? ⟨g, i * 11 + 3, none⟩ = some (.int .i64 qty) := hcl 3 (by decide)
          have x4 : wr.cell? ⟨g, i * 11 + 4, none⟩ = some (.int .i64 day) := hcl 4 (by decide)
          have x5 : wr.cell? ⟨g, i * 11 + 5, none⟩ = some (.int .i64 days) := hcl 5 (by decide)
          have x6 : wr.cell? ⟨g, i * 11 + 6, none⟩ = some (.int .i64 rank) := hcl 6 (by decide)
          have x7 : wr.cell? ⟨g, i * 11 + 7, none⟩ = some (.int .i64 lot) := hcl 7 (by decide)
          have x8 : wr.cell? ⟨g, i * 11 + 8, none⟩ = some (.int .i64 line) := hcl 8 (by decide)
          have x9 : wr.cell? ⟨g, i * 11 + 9, none⟩ = some (.slice PA Pn Pc) := hcl 9 (by decide)
          have x10 : wr.cell? ⟨g, i * 11 + 10, none⟩ = some (.slice QA On Oc) := hcl 10 (by decide)
          clear hcl
          go_wp2_with fail
          clear x0 x1 x2 x3 x4 x5 x6 x7 x8 x9 x10
          have hbn := bent_any w.heap.size ⟨kind, request, item, qty, day, days, rank, lot, line, parts, others⟩ ⟨⟨PA, Pn, Pc⟩, ⟨QA, On, Oc⟩⟩ wr (HC.out _ Sn.out).2 HOi.out Tn.out.size HFi.out n hlt28
          unfold askC strV at hbn
          simp only at hbn
          refine hbn.mono ?_
          clear hbn
          unfold BentP
          rintro e w3 ⟨R3, S3, rfl, is3, ok3, ow3, t3⟩
          have T3 := Lib.hid (Tn.out.trans (W := fun _ => False) t3 (fun _ e => e) (fun k e => .inr (LisW.le (HC.out _ Sn.out).2 e)))
          have S3n := Lib.hid (HT.out _ _ Sn.out t3 ow3)
          have I3 := Lib.hid is3
          clear t3 is3 ow3 Tn Sn
          unfold askC strV
          go_wp2_with fail
          have hpp := askPuts_any R3 S3 w3 (KS.out.fresh T3.out) I3.out ok3
          unfold askC strV at hpp
          refine hpp.mono ?_
          clear hpp
          rintro e w4 ⟨rfl, t4⟩
          have T4 := Lib.hid (T3.out.and_ t4)
          have S4 := Lib.hid (S3n.out.fresh t4)
          clear t4 T3 I3 ok3 S3n
          go_wp2_with fail
          go_roundw
          case rel =>
            first
            | exact ⟨n + 1, by omega, by go_num, S4.out, T4.out⟩
            | ((repeat apply Exists.intro); exact ⟨⟨n + 1, by omega, by go_num, S4.out, T4.out⟩, rfl⟩)
          case measure => simp [intOf] <;> omega
        · have hn28 : (29 : Int) ≤ (n : Int) := by omega
          have hcl := (HC.out _ Sn.out).1
          unfold CelsA askC strV at hcl
          have x0 : wr.cell? ⟨g, i * 11, none⟩ = some (.int .u8 kind) := hcl 0 (by decide)
          have x1 : wr.cell? ⟨g, i * 11 + 1, none⟩ = some (.int .i64 request) := hcl 1 (by decide)
          have x2 : wr.cell? ⟨g, i * 11 + 2, none⟩ = some (.string ⟨item.toArray⟩) := hcl 2 (by decide)
          have x3 : wr.cell? ⟨g, i * 11 + 3, none⟩ = some (.int .i64 qty) := hcl 3 (by decide)
          have x4 : wr.cell? ⟨g, i * 11 + 4, none⟩ = some (.int .i64 day) := hcl 4 (by decide)
          have x5 : wr.cell? ⟨g, i * 11 + 5, none⟩ = some (.int .i64 days) := hcl 5 (by decide)
          have x6 : wr.cell? ⟨g, i * 11 + 6, none⟩ = some (.int .i64 rank) := hcl 6 (by decide)
          have x7 : wr.cell? ⟨g, i * 11 + 7, none⟩ = some (.int .i64 lot) := hcl 7 (by decide)
          have x8 : wr.cell? ⟨g, i * 11 + 8, none⟩ = some (.int .i64 line) := hcl 8 (by decide)
          have x9 : wr.cell? ⟨g, i * 11 + 9, none⟩ = some (.slice PA Pn Pc) := hcl 9 (by decide)
          have x10 : wr.cell? ⟨g, i * 11 + 10, none⟩ = some (.slice QA On Oc) := hcl 10 (by decide)
          clear hcl
          go_wp2_with fail
          clear x0 x1 x2 x3 x4 x5 x6 x7 x8 x9 x10
          have htn := turned_any ⟨kind, request, item, qty, day, days, rank, lot, line, parts, others⟩ ⟨⟨PA, Pn, Pc⟩, ⟨QA, On, Oc⟩⟩ wr (KS.out.fresh Tn.out) (HC.out _ Sn.out).2.is HOi.out HRi.out HPi.out
          unfold askC strV at htn
          simp only at htn
          refine htn.mono ?_
          clear htn
          rintro e w4 ⟨rfl, t4⟩
          have T4 := Lib.hid (Tn.out.and_ t4)
          have S4 := Lib.hid (Sn.out.fresh t4)
          clear t4 Tn Sn
          go_wp2_with fail
          go_roundw
          case rel =>
            first
            | exact ⟨i + 1, by omega, by go_num, S4.out, T4.out⟩
            | ((repeat apply Exists.intro); exact ⟨⟨i + 1, by omega, by go_num, S4.out, T4.out⟩, rfl⟩)
          case measure => simp [intOf] <;> omega
    · have hi8 : (17 : Int) ≤ (i : Int) := by omega
      go_wp2_with fail
      refine (kinds_any _).mono ?_
      rintro e w5 ⟨rfl, t5⟩
      have T5 := Lib.hid (Ti.out.and_ t5)
      clear t5
      go_wp2_with fail
      refine (awake13_any _ (KS.out.fresh T5.out)).mono ?_
      rintro e w6 ⟨rfl, t6⟩
      have T6 := Lib.hid (T5.out.and_ t6)
      clear t6
      go_wp2_with fail
      go_ret
      exact ⟨rfl, T6.out⟩
end Go.Proofs.YtijmfglgeaaoaaaGreatDoor

namespace Go.Proofs.YtijmfglgeaaoaaaGreatDoor
open Go.RowKit

theorem cells_of_texts {H : Type} {enc : TypeId × Value → H} {P : Program} {w : World} {base : Nat} {sp : Nat → Bool} {held : Bool} {fuel : Nat} {t e : TypeId} {n : Nat} {cs : List Value} {zs : List (List UInt8)} {p : List MemPlace}
    (ht : P.underlying t = some (.array n e)) (he : P.underlying e = some .string) (hce : P.cellsOf e = 1) (hct : P.cellsOf t = n)
    (h : DataW.trod enc P w base sp held fuel t cs = some (.agg (zs.map fun z => .lit (.string z)), p)) : cs = zs.map strV := by
  cases fuel with
  | zero => simp [DataW.trod] at h
  | succ fuel =>
    simp only [DataW.trod, ht, hce, hct, Nat.mul_one] at h
    split at h
    · rename_i hl
      obtain ⟨xs, hm, hx⟩ := Option.map_eq_some_iff.1 h
      have hxs : xs.map (·.1) = zs.map fun z => (DataW.lit (.string z) : DataW H) := by
        have := congrArg Prod.fst hx
        simpa using this
      have hxl : xs.length = n := by simpa using Lib.mapM_length hm
      have hzl : zs.length = n := by
        have := congrArg List.length hxs
        simp at this
        omega
      apply List.ext_getElem?
      intro i
      by_cases hi : i < n
      · obtain ⟨b, hb, hf⟩ := Lib.mapM_at hm i i (by simp [hi])
        obtain ⟨z, hc, rfl, _⟩ := DataW.trod_string he hf
        have h1 : cs[i]? = some (.string z) := by
          have := congrArg (·[0]?) hc
          simpa [List.getElem?_take, List.getElem?_drop] using this
        have h2 : (xs.map (·.1))[i]? = some (DataW.lit (.string z.data.toList) : DataW H) := by simp [hb]
        rw [hxs] at h2
        simp only [List.getElem?_map, Option.map_eq_some_iff, DataW.lit.injEq, Lit.string.injEq] at h2
        obtain ⟨z', hz', e⟩ := h2
        rw [h1, List.getElem?_map, hz', e]
        rfl
      · rw [List.getElem?_eq_none (by omega), List.getElem?_eq_none (by simp; omega)]
    · cases h
theorem kinds_of_head {W : World} {rest : List (String × DataW Unit)} (h : laidMet Tryz.prog (("storeman/ask.kinds", Rows.laid_storeman_ask_kinds) :: rest) W) : KindsOk W := by
  obtain ⟨ps, ⟨g', t', cs, fuel, p, q, hg', ht', hvar, hd, _, _⟩, _⟩ := h
  have hg : Tryz.prog.globalNamed "storeman/ask.kinds" = some 0 := by kernel_rfl
  have hty : (Tryz.prog.globals[0]?).map (·.type) = some 104 := by kernel_rfl
  obtain rfl := Option.some.inj (hg.symm.trans hg')
  obtain rfl := Option.some.inj (hty.symm.trans ht')
  have e : (Rows.laid_storeman_ask_kinds : DataW Unit) = .agg (kindT.map fun z => .lit (.string z)) := rfl
  rw [e] at hd
  have hc := cells_of_texts Tryz.underlying104 Tryz.underlying9 (by kernel_rfl) (by kernel_rfl) hd
  have hcs : cs = (kindT.map strV).toArray := by rw [← hc]
  rw [hcs] at hvar
  intro i hi
  have := World.var?_cell hg hvar i
  rw [this]
  have hl : i < kindT.length := hi
  simp [List.getD, hl]
theorem kindsOk_of {W : World} (h : laidMet Tryz.prog [("unicode/utf8.acceptRanges", Rows.laid_unicode_utf8_acceptRanges), ("storeman/ask.kinds", Rows.laid_storeman_ask_kinds), ("unicode/utf8.first", Rows.laid_unicode_utf8_first)] W) : KindsOk W := kinds_of_head (laidMet.tail h)
end Go.Proofs.YtijmfglgeaaoaaaGreatDoor

