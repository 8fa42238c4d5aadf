/-
  strings.Join, by the library's contract, at this dump; how long what is told may be. Condition: what comes of it is within one allocation.
-/
import Derived.Test.YtglojnmcbochaaaGreatDoorTShf
import Derived.Test.YtglojnmcbochaaaGreatDoorTCodQ
import Derived.Test.YtglojnmcbochaaaGreatDoorTWrC
import Derived.Lib.ItoaLen
namespace Go.Proofs.YtglojnmcbochaaaGreatDoor
open Go.RowKit Go.Maps Go.Proofs
set_option linter.unusedVariables false
set_option linter.unusedSimpArgs false

theorem builderJ : Builder.Extra Tryz.prog Tryz.lays156_ren where
  sizeBuilder := by kernel_rfl
  liesBuilder := by kernel_rfl
  t5 := Tryz.lays105.t5
  a5 := Tryz.lays105.a5
  z5 := Tryz.lays105.z5
  v5 := Tryz.lays105.v5
  infoByte := by kernel_rfl
  cellsByte := by kernel_rfl
  sizeByte := by kernel_rfl
  neB5 := by decide
theorem join_any (b off n c : Nat) (l : WS) (w : World) (h : SlT w ⟨some ⟨b, off, none⟩, n, c⟩ l) (h2 : 2 ≤ n) (hn : n ≤ 1000000) (hlen : (Lib.join l [32]).length ≤ 140737488355328) :
    Calls Tryz.prog 21 #[.slice (some ⟨b, off, none⟩) n c, .string ⟨#[32]⟩] w (StrNew (Lib.join l [32]) w) := by
  have hl := h.len
  have hle := h.le
  simp only at hl hle
  obtain ⟨b', off', hA, hc⟩ := h.cells (show 0 < n by omega)
  simp only at hA hc
  injection hA with hA
  injection hA with e1 e2
  subst e1 e2
  have hb : b < w.heap.size := World.block_lt_of_cell? w ⟨b, off, none⟩ (hc 0 (by omega))
  have hxs : (l.map baOf).map (·.data.toList) = l := by
    rw [List.map_map]
    have : ((fun x : ByteArray => x.data.toList) ∘ baOf) = id := by
      funext x
      simp [baOf]
    rw [this, List.map_id]
  have := Any.strings_Join_many Tryz.lays156 builderJ b off c (l.map baOf) ⟨#[32]⟩ w (fun j x hx => by
    rw [List.getElem?_map, Option.map_eq_some_iff] at hx
    obtain ⟨y, hy, rfl⟩ := hx
    have hj : j < l.length := (List.getElem?_eq_some_iff.1 hy).1
    rw [hc j (by omega), List.getD_eq_getElem?_getD, hy]
    rfl) hb (by rw [List.length_map]; omega) (by rw [List.length_map]; omega) (by rw [List.length_map]; omega) (by rw [hxs]; exact hlen)
  rw [hxs, List.length_map, hl] at this
  exact this.mono fun e w' ⟨he, hw⟩ => ⟨he, Turned.of_below hw _⟩
/-! how long -/
theorem itoa_len (v : Int) (h : I64 v) : (Lib.itoa v).length ≤ 21 := Lib.itoa_length_le v h.1 h.2
theorem verbT_len (i : Nat) : (verbT.getD i []).length ≤ 7 := by
  rcases Nat.lt_or_ge i 16 with h | h
  · have : ∀ i < 16, (verbT.getD i []).length ≤ 7 := by decide
    exact this i h
  · rw [List.getD_eq_getElem?_getD, List.getElem?_eq_none (show verbT.length ≤ i from h)]
    simp
theorem field_short {a : AskV} {c : Nat} (h : okF a c = true) (hc : c ∈ letters) (ho : a.Ok) : ∀ p ∈ fieldW a c, p.length ≤ 21 := by
  intro p hp
  unfold letters at hc
  simp only [List.mem_cons, List.not_mem_nil, or_false] at hc
  rcases hc with rfl | rfl | rfl | rfl | rfl | rfl | rfl | rfl | rfl <;> simp only [okF, fieldW, Nat.reduceEqDiff, if_true, if_false, List.mem_singleton] at h hp
  · subst hp; have := codeL_len h; omega
  · subst hp; exact itoa_len _ ho.qty
  · subst hp; exact itoa_len _ ho.day
  · subst hp; exact itoa_len _ ho.days
  · subst hp; exact itoa_len _ ho.rank
  · subst hp; exact itoa_len _ ho.lot
  · subst hp; exact itoa_len _ ho.line
  · obtain ⟨q, hq, hp⟩ := List.mem_flatMap.1 hp
    have h1 := (partsB_mem h).2.2 q hq
    rcases List.mem_cons.1 hp with rfl | hp
    · have := codeL_len h1.1; omega
    · rw [List.mem_singleton] at hp
      subst hp
      exact itoa_len _ (ho.parts q hq).2
  · have := codeL_len ((othersB_mem h).2 p hp); omega
theorem asks_short {a : AskV} (ho : a.Ok) : (asksW a).length ≤ 100 ∧ ∀ p ∈ asksW a, p.length ≤ 21 := by
  by_cases h : rightA a = true
  · obtain ⟨f, hf, hok, _⟩ := right_ok h
    have e : asksW a = wordOf a.kind :: Lib.itoa a.request :: f.flatMap (fieldW a) := by
      unfold asksW
      rw [if_pos h, hf]
      rfl
    rw [e]
    refine ⟨?_, fun p hp => ?_⟩
    · have h1 := fieldsW_len f hok
      have h2 := kindsL_len (fieldsK_kinds hf)
      simp only [List.length_cons]
      omega
    · rcases List.mem_cons.1 hp with rfl | hp
      · have := verbT_len a.kind.toNat
        show (verbT.getD a.kind.toNat []).length ≤ 21
        omega
      · rcases List.mem_cons.1 hp with rfl | hp
        · exact itoa_len _ ho.request
        · obtain ⟨c, hc, hp⟩ := List.mem_flatMap.1 hp
          exact field_short (hok c hc).1 (hok c hc).2 ho p hp
  · have e : asksW a = [[110, 111, 110, 101]] := by
      unfold asksW
      rw [if_neg h]
    rw [e]
    exact ⟨by decide, by decide⟩
theorem tells_short {t : TellV} (ho : t.Ok) : (tellsW t).length ≤ 10200 ∧ ∀ p ∈ tellsW t, p.length ≤ 21 := by
  by_cases h : rightT t = true
  · by_cases he : t.err ≠ 0
    · have e : tellsW t = [[101, 114, 114, 111, 114], Lib.itoa t.err] := by
        unfold tellsW
        rw [if_pos h, if_pos he]
      rw [e]
      refine ⟨by simp, fun p hp => ?_⟩
      simp only [List.mem_cons, List.not_mem_nil, or_false] at hp
      rcases hp with rfl | rfl
      · decide
      · exact itoa_len _ ho.err
    · have e : tellsW t = [111, 107] :: Lib.itoa t.id :: Lib.itoa t.day :: (if t.code = [] then [45] else t.code) :: Lib.itoa t.state :: (t.lots.flatMap lotW ++ t.uses.flatMap useW) := by
        unfold tellsW
        rw [if_pos h, if_neg he]
      have hf := rightT_few h
      have hr := h
      unfold rightT at hr
      rw [if_neg (fun hh => by rw [if_pos hh] at hr; cases hr), if_neg he] at hr
      simp only [Bool.and_eq_true, Bool.or_eq_true, decide_eq_true_eq] at hr
      obtain ⟨_, _, hc, _, _, _, hl, hu⟩ := hr
      rw [e]
      refine ⟨?_, fun p hp => ?_⟩
      · have h1 := flatLen lotW 7 (fun _ => rfl) t.lots
        have h2 := flatLen useW 4 (fun _ => rfl) t.uses
        simp only [List.length_cons, List.length_append]
        omega
      · simp only [List.mem_cons, List.mem_append] at hp
        rcases hp with rfl | rfl | rfl | rfl | rfl | hp | hp
        · decide
        · exact itoa_len _ ho.id
        · exact itoa_len _ ho.day
        · split
          · decide
          · rename_i hne
            rcases hc with hc | hc
            · exact absurd hc hne
            · have := codeL_len hc; omega
        · exact itoa_len _ (by have := ho.state; unfold isByte at this; unfold I64; omega)
        · obtain ⟨l, hl', hp⟩ := List.mem_flatMap.1 hp
          have h1 := List.all_eq_true.1 hl l hl'
          have h2 := ho.lots l hl'
          unfold lotB at h1
          simp only [Bool.and_eq_true] at h1
          unfold lotW at hp
          simp only [List.mem_cons, List.not_mem_nil, or_false] at hp
          rcases hp with rfl | rfl | rfl | rfl | rfl | rfl | rfl
          · decide
          · exact itoa_len _ h2.id
          · have := codeL_len h1.2.1; omega
          · exact itoa_len _ h2.frm
          · exact itoa_len _ h2.til
          · exact itoa_len _ h2.qty
          · exact itoa_len _ (by split <;> (unfold I64; omega))
        · obtain ⟨u, hu', hp⟩ := List.mem_flatMap.1 hp
          have h2 := ho.uses u hu'
          unfold useW at hp
          simp only [List.mem_cons, List.not_mem_nil, or_false] at hp
          rcases hp with rfl | rfl | rfl | rfl
          · decide
          · exact itoa_len _ h2.want
          · exact itoa_len _ h2.lot
          · exact itoa_len _ h2.qty
  · have e : tellsW t = [[110, 111, 110, 101]] := by
      unfold tellsW
      rw [if_neg h]
    rw [e]
    exact ⟨by decide, by decide⟩
structure TaleV.Ok (t : TaleV) : Prop where
  kind : isByte t.kind
  at_ : I64 t.at_
  session : I64 t.session
  ask : t.ask.Ok
  tell : t.tell.Ok
theorem told_short {t : TaleV} (ho : t.Ok) : (toldW t).length ≤ 10300 ∧ 2 ≤ (toldW t).length ∧ ∀ p ∈ toldW t, p.length ≤ 21 := by
  have ha := asks_short ho.ask
  have ht := tells_short ho.tell
  have hi := itoa_len _ ho.at_
  have hs := itoa_len _ ho.session
  unfold toldW
  split
  · refine ⟨by simp only [List.length_cons]; omega, by simp only [List.length_cons]; omega, fun p hp => ?_⟩
    simp only [List.mem_cons] at hp
    rcases hp with rfl | rfl | rfl | hp
    · exact hi
    · decide
    · exact hs
    · exact ha.2 p hp
  · split
    · refine ⟨by simp only [List.length_cons]; omega, by simp only [List.length_cons]; omega, fun p hp => ?_⟩
      simp only [List.mem_cons] at hp
      rcases hp with rfl | rfl | rfl | hp
      · exact hi
      · decide
      · exact hs
      · exact ht.2 p hp
    · split
      · refine ⟨by simp, by simp, fun p hp => ?_⟩
        simp only [List.mem_cons, List.not_mem_nil, or_false] at hp
        rcases hp with rfl | rfl
        · exact hi
        · decide
      · split
        · refine ⟨by simp, by simp, fun p hp => ?_⟩
          simp only [List.mem_cons, List.not_mem_nil, or_false] at hp
          rcases hp with rfl | rfl
          · exact hi
          · decide
        · refine ⟨by simp, by simp, fun p hp => ?_⟩
          simp only [List.mem_cons, List.not_mem_nil, or_false] at hp
          rcases hp with rfl | rfl
          · exact hi
          · decide
theorem each32_len (ws : WS) (h : ∀ p ∈ ws, p.length ≤ 21) : (each32 ws).length ≤ 22 * ws.length := by
  induction ws with
  | nil => exact Nat.le_refl _
  | cons p ws ih =>
    rw [each32_cons, List.length_append, List.length_cons, List.length_cons]
    have h1 := h p (by simp)
    have h2 := ih (fun q hq => h q (by simp [hq]))
    omega
theorem told_len {t : TaleV} (ho : t.Ok) : (Lib.join (toldW t) [32]).length ≤ 300000 := by
  obtain ⟨ws, h1, h2⟩ := told_eq t
  obtain ⟨g1, _, g2⟩ := told_short ho
  rw [h1] at g1 g2
  have h3 := each32_len ws (fun p hp => g2 p (by simp [hp]))
  have h4 := itoa_len _ ho.at_
  show (toldL t).length ≤ _
  rw [h2, List.length_append]
  simp only [List.length_cons] at g1
  unfold Lib.itoa at *
  omega
end Go.Proofs.YtglojnmcbochaaaGreatDoor

