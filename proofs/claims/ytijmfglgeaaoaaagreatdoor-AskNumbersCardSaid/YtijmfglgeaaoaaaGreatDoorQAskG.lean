/-
  ask.Get's closures: the next number, the next code. No condition but numbers.
-/
import Derived.Test.YtijmfglgeaaoaaaGreatDoorQAskR
import Derived.IntWalk
namespace Go.Proofs.YtijmfglgeaaoaaaGreatDoor
open Go.RowKit Go.Maps
set_option linter.unusedVariables false
set_option linter.unusedSimpArgs false

theorem BytS.turned0 {w w' : World} {W : Nat → Prop} {A : Option Addr} {n c : Nat} {zs : List Int} (h : BytS w A n c zs) (ht : Turned W w w') (hW : 0 < n → ∀ b o, A = some ⟨b, o, none⟩ → ¬ W b) : BytS w' A n c zs :=
  ⟨⟨h.len, h.max, fun hn => by
    obtain ⟨b, off, e, hc⟩ := h.cell hn
    exact ⟨b, off, e, fun j hj => cell_turned ht (hc j hj) (hW hn b off e)⟩⟩, h.nil_⟩
/-- What Get's closures share: is all well so far; where they are; the bytes. -/
structure GetW (A : Option Addr) (n c : Nat) (zs : List Int) (B bok bat bbx : Nat) (s : Option (List Int)) (pz : Nat) (w : World) : Prop where
  ok : Blk w bok 4 #[.bool s.isSome]
  at_ : Blk w bat 3 #[.int .i64 (pz : Int)]
  bx : Blk w bbx 22 #[.slice A n c]
  byt : BytS w A n c zs
  le : pz ≤ n
  is_ : ∀ r, s = some r → r = zs.drop pz
  far : 0 < n → ∀ b o, A = some ⟨b, o, none⟩ → b < B
  b1 : B ≤ bok
  b2 : B ≤ bat
  nc : n ≤ c
  cm : c ≤ maxLen
  few : n ≤ 1000000
section
variable {A : Option Addr} {n c : Nat} {zs : List Int} {B bok bat bbx : Nat} {s : Option (List Int)} {pz : Nat} {w w' : World}
theorem GetW.turned {W : Nat → Prop} (h : GetW A n c zs B bok bat bbx s pz w) (ht : Turned W w w') (hW : ∀ i, W i → i ≠ bok ∧ i ≠ bat ∧ i ≠ bbx ∧ B ≤ i) : GetW A n c zs B bok bat bbx s pz w' :=
  ⟨h.ok.turned ht (fun e => (hW _ e).1 rfl), h.at_.turned ht (fun e => (hW _ e).2.1 rfl), h.bx.turned ht (fun e => (hW _ e).2.2.1 rfl), h.byt.turned0 ht (fun hn b o e e2 => by have := h.far hn b o e; have := (hW _ e2).2.2.2; omega), h.le, h.is_, h.far, h.b1, h.b2, h.nc, h.cm, h.few⟩
theorem GetW.fresh (h : GetW A n c zs B bok bat bbx s pz w) (ht : Turned (fun _ => False) w w') : GetW A n c zs B bok bat bbx s pz w' := h.turned ht (fun _ e => e.elim)
theorem GetW.ne1 (h : GetW A n c zs B bok bat bbx s pz w) : bok ≠ bat := Blk.ne_ h.ok h.at_ (by decide)
theorem GetW.ne2 (h : GetW A n c zs B bok bat bbx s pz w) : bbx ≠ bok := Blk.ne_ h.bx h.ok (by decide)
theorem GetW.ne3 (h : GetW A n c zs B bok bat bbx s pz w) : bbx ≠ bat := Blk.ne_ h.bx h.at_ (by decide)
/-- The two boxes written anew. -/
theorem GetW.put (h : GetW A n c zs B bok bat bbx s pz w) {s' : Option (List Int)} {at' : Nat} (ht : Turned (fun i => i = bok ∨ i = bat) w w') (h1 : Blk w' bok 4 #[.bool s'.isSome]) (h2 : Blk w' bat 3 #[.int .i64 (at' : Int)]) (hle : at' ≤ n) (his : ∀ r, s' = some r → r = zs.drop at') : GetW A n c zs B bok bat bbx s' at' w' :=
  ⟨h1, h2, h.bx.turned ht (fun e => by
    rcases e with e | e
    · exact h.ne2 e
    · exact h.ne3 e), h.byt.turned0 ht (fun hn b o e e2 => by
    have := h.far hn b o e
    have k1 := h.b1
    have k2 := h.b2
    rcases e2 with e2 | e2 <;> omega), hle, his, h.far, h.b1, h.b2, h.nc, h.cm, h.few⟩
theorem GetW.setOk (h : GetW A n c zs B bok bat bbx s pz w) (b : Bool) : Blk (w.setCell ⟨bok, 0, none⟩ (.bool b)) bok 4 #[.bool b] := by
  have := h.ok.set_ 0 (.bool b)
  simp only [List.setIfInBounds_toArray, List.set_cons_zero] at this
  exact this
end
def BoxT (bok bat : Nat) (i : Nat) : Prop := i = bok ∨ i = bat
def TkPost (A : Option Addr) (n c : Nat) (zs : List Int) (B bok bat bbx : Nat) (v : Value) (s : Option (List Int)) (w : World) (e : Ending) (w' : World) : Prop :=
  e = .returned v ∧ (∃ at', GetW A n c zs B bok bat bbx s at' w') ∧ Turned (BoxT bok bat) w w'
theorem wrap64_256 (v : Int) : wrap64 (v * 256) = IntKind.i64.wrap (v * 256) := by rw [IntKind.wrap_i64]; unfold wrap64; omega
set_option maxRecDepth 100000 in
set_option maxHeartbeats 1000000 in
theorem take_no (A : Option Addr) (n c : Nat) (zs : List Int) (B bok bat bbx : Nat) (s : Option (List Int)) (pz k : Nat) (w : World) (h : GetW A n c zs B bok bat bbx s pz w) (hk : k ≤ 8) (hs : s = none ∨ n < pz + k) :
    Calls Tryz.prog 23 #[.int .i64 k, .pointer (some ⟨bok, 0, none⟩), .pointer (some ⟨bat, 0, none⟩), .pointer (some ⟨bbx, 0, none⟩)] w (TkPost A n c zs B bok bat bbx (.int .i64 0) none w) := by
  have q0 := h.ok.cell 0
  have q1 := h.at_.cell 0
  have q2 := h.bx.cell 0
  have f0 := h.ok.frozen 0
  have hF := Lib.hid (show TkPost A n c zs B bok bat bbx (.int .i64 0) none w (.returned (.int .i64 0)) (w.setCell ⟨bok, 0, none⟩ (.bool false)) from by
    have tS : Turned (fun i => i = bok ∨ i = bat) w (w.setCell ⟨bok, 0, none⟩ (.bool false)) := (Turned.refl _ w).setCell (p := ⟨bok, 0, none⟩) (.inl (.inl rfl)) _
    exact ⟨rfl, ⟨pz, h.put tS (h.setOk false) (h.at_.far (p := ⟨bok, 0, none⟩) (fun e => h.ne1 e.symm) _) h.le (fun r e => by cases e)⟩, tS⟩)
  have hle := h.le
  have hcm := h.cm
  have hfw := h.few
  have hnc := h.nc
  unfold maxLen at hcm
  clear h
  simp only [List.getElem?_toArray, List.getElem?_cons_zero] at q0 q1 q2
  cases s with
  | none =>
    clear hs
    simp only [Option.isSome_none] at q0
    go_enter Tryz.func23, Tryz.ntmps23
    go_wp2
    go_ret
    exact hF.out
  | some r =>
    have hi : (n : Int) < (pz : Int) + (k : Int) := by
      rcases hs with e | e
      · cases e
      · omega
    have hid : decide ((pz : Int) + (k : Int) ≤ (n : Int)) = false := decide_eq_false (by omega)
    simp only [Option.isSome_some] at q0
    go_enter Tryz.func23, Tryz.ntmps23
    go_wp2
    go_ret
    exact hF.out
set_option maxRecDepth 100000 in
set_option maxHeartbeats 1000000 in
theorem take_yes (A : Option Addr) (n c : Nat) (zs : List Int) (B bok bat bbx : Nat) (r : List Int) (pz k : Nat) (w : World) (h : GetW A n c zs B bok bat bbx (some r) pz w) (hb : ∀ z ∈ zs, isByte z) (hk1 : 1 ≤ k) (hk : k ≤ 8) (hs : pz + k ≤ n) :
    Calls Tryz.prog 23 #[.int .i64 k, .pointer (some ⟨bok, 0, none⟩), .pointer (some ⟨bat, 0, none⟩), .pointer (some ⟨bbx, 0, none⟩)] w (TkPost A n c zs B bok bat bbx (.int .i64 (decN (r.take k))) (some (r.drop k)) w) := by
  have hn0 : 0 < n := by omega
  obtain ⟨b, off, hA, hcell⟩ := h.byt.cell hn0
  have hfar := h.far hn0 b off hA
  subst hA
  have hr := h.is_ r rfl
  have hl := h.byt.len
  have tS : Turned (fun i => i = bok ∨ i = bat) w (w.setCell ⟨bok, 0, none⟩ (.bool true)) := (Turned.refl _ w).setCell (p := ⟨bok, 0, none⟩) (.inl (.inl rfl)) _
  have h1 := h.put (s' := some r) (at' := pz) tS (h.setOk true) (h.at_.far (p := ⟨bok, 0, none⟩) (fun e => h.ne1 e.symm) _) h.le h.is_
  have q0 := h.ok.cell 0
  have q1 := h.at_.cell 0
  have q2 := h.bx.cell 0
  have f0 := h.ok.frozen 0
  have k0 := h1.ok.cell 0
  have k1 := h1.at_.cell 0
  have k2 := h1.bx.cell 0
  have g1 := h1.at_.frozen 0
  simp only [List.getElem?_toArray, List.getElem?_cons_zero, Option.isSome_some] at q0 q1 q2 k0 k1 k2
  have hle := h.le
  have hcm := h.cm
  have hfw := h.few
  have hnc := h.nc
  unfold maxLen at hcm
  have hi : (pz : Int) + (k : Int) ≤ (n : Int) := by omega
  have hi2 : (pz : Int) + (k : Int) ≤ (c : Int) := by omega
  obtain ⟨b', off', hA', hcell1⟩ := h1.byt.cell hn0
  have hrl : r.length = n - pz := by rw [hr, List.length_drop, hl]
  have hd : ∀ j, j < k → (w.setCell ⟨bok, 0, none⟩ (.bool true)).cell? ⟨b, off + pz + j, none⟩ = some (.int .u8 (r.getD j 0)) := fun j hj => by
    injection hA' with hA'
    injection hA' with e1 e2
    subst e1 e2
    rw [Nat.add_assoc, hcell1 (pz + j) (by omega), hr]
    simp only [List.getD_eq_getElem?_getD, List.getElem?_drop]
  have hsub : ∀ z ∈ r, z ∈ zs := fun z hz => by
    rw [hr] at hz
    exact List.mem_of_mem_drop hz
  have hbr : ∀ j, j < k → isByte (r.getD j 0) := fun j hj => by
    rw [List.getD_eq_getElem?_getD, List.getElem?_eq_getElem (by omega), Option.getD_some]
    exact hb _ (hsub _ (List.getElem_mem _))
  have hF := Lib.hid (show TkPost (some ⟨b, off, none⟩) n c zs B bok bat bbx (.int .i64 (decN (r.take k))) (some (r.drop k)) w (.returned (.int .i64 (decN (r.take k)))) ((w.setCell ⟨bok, 0, none⟩ (.bool true)).setCell ⟨bat, 0, none⟩ (.int .i64 ((pz : Int) + (k : Int)))) from by
    have tS2 : Turned (fun i => i = bok ∨ i = bat) (w.setCell ⟨bok, 0, none⟩ (.bool true)) ((w.setCell ⟨bok, 0, none⟩ (.bool true)).setCell ⟨bat, 0, none⟩ (.int .i64 ((pz : Int) + (k : Int)))) := (Turned.refl _ _).setCell (p := ⟨bat, 0, none⟩) (.inl (.inr rfl)) _
    refine ⟨rfl, ⟨pz + k, h1.put tS2 (h1.ok.far (p := ⟨bat, 0, none⟩) h1.ne1 _) ?_ hs (fun r' e => ?_)⟩, tS.setCell (p := ⟨bat, 0, none⟩) (.inl (.inr rfl)) _⟩
    · have := h1.at_.set_ 0 (.int .i64 ((pz : Int) + (k : Int)))
      simp only [List.setIfInBounds_toArray, List.set_cons_zero] at this
      rw [show ((pz + k : Nat) : Int) = (pz : Int) + (k : Int) by omega]
      exact this
    · injection e with e
      rw [← e, hr, List.drop_drop])
  have hd' := Lib.hid hd
  have hbr' := Lib.hid hbr
  have hrl' := Lib.hid hrl
  clear h h1 tS hcell hcell1 hd hbr hrl hA' hr hl
  by_cases hck : c = pz + k - k
  · exfalso; omega
  have hc5 : pz < c := by omega
  have hc6 : ¬ (pz = c) := by omega
  go_enter Tryz.func23, Tryz.ntmps23
  go_wp2_with fail
  go_loop [6, 27] (fun v i => ∃ j : Nat, j ≤ k ∧ i = .int .i64 j ∧ v = .int .i64 (decN (r.take j))) (fun _ i => k - (intOf i).toNat)
  case atStart => exact ⟨0, Nat.zero_le _, rfl, rfl⟩
  case round =>
    obtain ⟨j, hj, rfl, rfl⟩ := hrel
    by_cases hlt : j < k
    · have hji : (j : Int) < (k : Int) := by omega
      have q5 := hd'.out j hlt
      have hcb := hbr'.out j hlt
      unfold isByte at hcb
      have hsn : r.take (j + 1) = r.take j ++ [r.getD j 0] := by
        rw [List.take_succ_eq_append_getElem (by rw [hrl'.out]; omega)]
        rw [List.getD_eq_getElem?_getD, List.getElem?_eq_getElem (by rw [hrl'.out]; omega)]
        rfl
      have hst := Lib.hid (show decN (r.take (j + 1)) = IntKind.i64.wrap (decN (r.take j) * 256 + r.getD j 0) by rw [hsn, decN_snoc])
      clear hsn
      generalize decN (r.take j) = v at *
      generalize r.getD j 0 = x at *
      have hor := i64_or_low v x hcb.1 (by omega)
      rw [← wrap64_256] at hor
      have hor' := Lib.hid hor
      clear hor
      go_wp2_with fail
      go_round
      case rel =>
        refine ⟨j + 1, hlt, by go_num, ?_⟩
        rw [hst.out, ← hor'.out]
      case measure => simp [intOf]; omega
    · obtain rfl : j = k := by omega
      have hge : (j : Int) ≤ (j : Int) := Int.le_refl _
      go_wp2_with fail
      go_ret
      exact hF.out
theorem take_any (A : Option Addr) (n c : Nat) (zs : List Int) (B bok bat bbx : Nat) (s : Option (List Int)) (pz k : Nat) (w : World) (h : GetW A n c zs B bok bat bbx s pz w) (hb : ∀ z ∈ zs, isByte z) (hk1 : 1 ≤ k) (hk : k ≤ 8) :
    Calls Tryz.prog 23 #[.int .i64 k, .pointer (some ⟨bok, 0, none⟩), .pointer (some ⟨bat, 0, none⟩), .pointer (some ⟨bbx, 0, none⟩)] w (TkPost A n c zs B bok bat bbx (.int .i64 (numS k s).1) (numS k s).2 w) := by
  unfold numS
  cases s with
  | none => exact take_no A n c zs B bok bat bbx none pz k w h hk (.inl rfl)
  | some r =>
    have hr := h.is_ r rfl
    have hrl : r.length = n - pz := by rw [hr, List.length_drop, h.byt.len]
    have hle := h.le
    by_cases hs : pz + k ≤ n
    · rw [takeS_some (by omega)]
      exact take_yes A n c zs B bok bat bbx r pz k w h hb hk1 hk hs
    · rw [takeS_short (by omega)]
      exact take_no A n c zs B bok bat bbx (some r) pz k w h hk (.inr (by omega))
/-! coded -/
set_option maxRecDepth 100000 in
set_option maxHeartbeats 1000000 in
theorem coded_no (A : Option Addr) (n c : Nat) (zs : List Int) (B bok bat bbx pz : Nat) (w : World) (h : GetW A n c zs B bok bat bbx none pz w) :
    Calls Tryz.prog 24 #[.pointer (some ⟨bok, 0, none⟩), .pointer (some ⟨bbx, 0, none⟩), .pointer (some ⟨bat, 0, none⟩)] w (TkPost A n c zs B bok bat bbx (.string ⟨#[]⟩) none w) := by
  have q0 := h.ok.cell 0
  simp only [List.getElem?_toArray, List.getElem?_cons_zero, Option.isSome_none] at q0
  have h' := Lib.hid h
  clear h
  go_enter Tryz.func24, Tryz.ntmps24
  go_wp2
  go_ret
  exact ⟨rfl, ⟨pz, h'.out⟩, Turned.refl _ _⟩
def codeV (o : Option (List UInt8)) : Value := match o with
  | some l => .tuple #[.string ⟨l.toArray⟩, .int .i64 (1 + (l.length : Int)), .bool true]
  | none => .tuple #[.string ⟨#[]⟩, .int .i64 0, .bool false]
set_option maxRecDepth 100000 in
set_option maxHeartbeats 1000000 in
theorem coded_yes (A : Option Addr) (n c : Nat) (zs : List Int) (B bok bat bbx : Nat) (r : List Int) (pz : Nat) (w : World) (h : GetW A n c zs B bok bat bbx (some r) pz w) (hb : ∀ z ∈ zs, isByte z) (o : Option (List UInt8)) (ho : getL r = o) :
    Calls Tryz.prog 24 #[.pointer (some ⟨bok, 0, none⟩), .pointer (some ⟨bbx, 0, none⟩), .pointer (some ⟨bat, 0, none⟩)] w (TkPost A n c zs B bok bat bbx (strV ((o.getD []))) (o.map fun l => r.drop (1 + l.length)) w) := by
  have hr := h.is_ r rfl
  have hl := h.byt.len
  have hle := h.le
  have hcm := h.cm
  have hfw := h.few
  have hnc := h.nc
  have hbr : ∀ z ∈ r, isByte z := fun z hz => hb z (by rw [hr] at hz; exact List.mem_of_mem_drop hz)
  have hrl : r.length = n - pz := by rw [hr, List.length_drop, hl]
  have q0 := h.ok.cell 0
  have q1 := h.at_.cell 0
  have q2 := h.bx.cell 0
  simp only [List.getElem?_toArray, List.getElem?_cons_zero, Option.isSome_some] at q0 q1 q2
  have hG : ∀ (A' : Option Addr) (c' : Nat), BytR w A' (n - pz) r → n - pz ≤ c' → c' ≤ maxLen → Calls Tryz.prog 25 #[.slice A' (n - pz) c'] w (fun e w' => e = .returned (codeV o) ∧ Turned (fun _ => False) w w') := fun A' c' h1 h2 h3 => by
    have := get_any A' (n - pz) c' r w h1 hbr h2 h3
    rw [ho] at this
    refine this.mono ?_
    rintro e w' ⟨rfl, t⟩
    refine ⟨?_, t⟩
    cases o <;> rfl
  have hF : ∀ w1, Turned (fun _ => False) w w1 → ∀ (l : List UInt8), o = some l → TkPost A n c zs B bok bat bbx (strV ((o.getD []))) (o.map fun l => r.drop (1 + l.length)) w (.returned (.string ⟨l.toArray⟩)) ((w1.setCell ⟨bok, 0, none⟩ (.bool true)).setCell ⟨bat, 0, none⟩ (.int .i64 ((pz : Int) + (1 + (l.length : Int))))) := by
    rintro w1 t1 l rfl
    have hp := put_get hbr ho
    have hW := h.fresh t1
    have tS : Turned (fun i => i = bok ∨ i = bat) w1 ((w1.setCell ⟨bok, 0, none⟩ (.bool true)).setCell ⟨bat, 0, none⟩ (.int .i64 ((pz : Int) + (1 + (l.length : Int))))) := ((Turned.refl _ w1).setCell (p := ⟨bok, 0, none⟩) (.inl (.inl rfl)) _).setCell (p := ⟨bat, 0, none⟩) (.inl (.inr rfl)) _
    refine ⟨rfl, ⟨pz + (1 + l.length), hW.put tS ((hW.setOk true).far (p := ⟨bat, 0, none⟩) hW.ne1 _) ?_ (by omega) (fun r' e => ?_)⟩, (t1.mono (fun _ e => e.elim)).trans (W := BoxT bok bat) tS (fun _ e => e) (fun _ e => .inl e)⟩
    · have := (hW.at_.far (p := ⟨bok, 0, none⟩) (fun e => hW.ne1 e.symm) (.bool true)).set_ 0 (.int .i64 ((pz : Int) + (1 + (l.length : Int))))
      simp only [List.setIfInBounds_toArray, List.set_cons_zero] at this
      rw [show ((pz + (1 + l.length) : Nat) : Int) = (pz : Int) + (1 + (l.length : Int)) by omega]
      exact this
    · simp only [Option.map_some, Option.some.injEq] at e
      rw [← e, hr, List.drop_drop]
  have hF0 : ∀ w1, Turned (fun _ => False) w w1 → o = none → TkPost A n c zs B bok bat bbx (strV ((o.getD []))) (o.map fun l => r.drop (1 + l.length)) w (.returned (.string ⟨#[]⟩)) ((w1.setCell ⟨bok, 0, none⟩ (.bool false)).setCell ⟨bat, 0, none⟩ (.int .i64 (pz : Int))) := by
    rintro w1 t1 rfl
    have hW := h.fresh t1
    have tS : Turned (fun i => i = bok ∨ i = bat) w1 ((w1.setCell ⟨bok, 0, none⟩ (.bool false)).setCell ⟨bat, 0, none⟩ (.int .i64 (pz : Int))) := ((Turned.refl _ w1).setCell (p := ⟨bok, 0, none⟩) (.inl (.inl rfl)) _).setCell (p := ⟨bat, 0, none⟩) (.inl (.inr rfl)) _
    refine ⟨rfl, ⟨pz, hW.put tS ((hW.setOk false).far (p := ⟨bat, 0, none⟩) hW.ne1 _) ?_ h.le (fun r' e => by cases e)⟩, (t1.mono (fun _ e => e.elim)).trans (W := BoxT bok bat) tS (fun _ e => e) (fun _ e => .inl e)⟩
    have := (hW.at_.far (p := ⟨bok, 0, none⟩) (fun e => hW.ne1 e.symm) (.bool false)).set_ 0 (.int .i64 (pz : Int))
    simp only [List.setIfInBounds_toArray, List.set_cons_zero] at this
    exact this
  have hC := Lib.hid (fun (w1 : World) (t1 : Turned (fun _ => False) w w1) => And.intro ((h.fresh t1).ok.cell 0) (And.intro ((h.fresh t1).at_.cell 0) (And.intro ((h.fresh t1).ok.frozen 0) ((h.fresh t1).at_.frozen 0))))
  have hne := h.ne1
  have hrd := Lib.hid hr
  have hlo : ∀ l, o = some l → l.length ≤ 12 := fun l e => by
    have := put_get hbr (ho.trans e)
    have := putOk_len this.1
    omega
  have hF' := Lib.hid hF
  have hF0' := Lib.hid hF0
  have hlo' := Lib.hid hlo
  unfold maxLen at hcm
  have hbyt := Lib.hid h.byt
  clear hF hF0 hlo h hr hl
  cases A with
  | none =>
    obtain ⟨h0, h0c⟩ := hbyt.out.nil_ rfl
    subst h0 h0c
    obtain rfl : pz = 0 := by omega
    have hr0 : r = [] := List.length_eq_zero_iff.1 (by omega)
    have ho0 : o = none := by rw [← ho, hr0]; rfl
    have hc := Lib.hid (hG none 0 (by rw [hr0]; exact BytR.none_ w) (Nat.le_refl _) (by unfold maxLen; omega))
    subst ho0
    unfold codeV at hc
    clear hG ho hbr hrl
    go_enter Tryz.func24, Tryz.ntmps24
    go_wp2_with fail
    refine hc.out.mono ?_
    rintro e w1 ⟨rfl, t1⟩
    obtain ⟨k0, k1, f0, f1⟩ := hC.out w1 t1
    simp only [List.getElem?_toArray, List.getElem?_cons_zero, Option.isSome_some] at k0 k1
    have F := Lib.hid (hF0'.out w1 t1 (by simp))
    clear t1 hC
    go_wp2_with fail
    go_ret
    exact F.out
  | some ad =>
    have hsm : ∃ b off, ad = ⟨b, off, none⟩ ∨ n = 0 := by
      rcases Nat.eq_zero_or_pos n with h0 | h0
      · exact ⟨0, 0, .inr h0⟩
      · obtain ⟨b, off, e, _⟩ := hbyt.out.cell h0
        injection e with e
        exact ⟨b, off, .inl e⟩
    by_cases hpc : pz = c
    · have hr0 : r = [] := List.length_eq_zero_iff.1 (by omega)
      have hn : n - pz = 0 := by omega
      have ho0 : o = none := by rw [← ho, hr0]; rfl
      have hc := hG (some ad) 0 (by rw [hr0, hn]; exact ⟨rfl, by omega, fun h => absurd h (by omega)⟩) (by omega) (by unfold maxLen; omega)
      rw [hn] at hc
      obtain rfl : n = c := by omega
      subst hpc
      subst ho0
      unfold codeV at hc
      have hc := Lib.hid hc
      clear hG ho hbr hrl hn
      go_enter Tryz.func24, Tryz.ntmps24
      go_wp2_with fail
      refine hc.out.mono ?_
      rintro e w1 ⟨rfl, t1⟩
      obtain ⟨k0, k1, f0, f1⟩ := hC.out w1 t1
      simp only [List.getElem?_toArray, List.getElem?_cons_zero, Option.isSome_some] at k0 k1
      have F := Lib.hid (hF0'.out w1 t1 (by simp))
      clear t1 hC
      go_wp2_with fail
      go_ret
      exact F.out
    · have hlt : pz < c := by omega
      have hpc2 : ¬ (c = pz) := by omega
      obtain ⟨b, off, had⟩ := hsm
      have hX : BytR w (some (ad.add pz)) (n - pz) r := by
        rcases had with rfl | h0
        · rw [Addr.add_mid]
          exact ⟨hrl, by have := hbyt.out.max; omega, fun h0 => by
            obtain ⟨b2, off2, e, hcl⟩ := hbyt.out.cell (by omega)
            injection e with e
            injection e with e1 e2
            subst e1 e2
            refine ⟨b, off + pz, rfl, fun j hj => ?_⟩
            rw [Nat.add_assoc, hcl (pz + j) (by omega), hrd.out]
            simp only [List.getD_eq_getElem?_getD, List.getElem?_drop]⟩
        · exact ⟨hrl, by omega, fun h => absurd h (by omega)⟩
      have hc := Lib.hid (hG (some (ad.add pz)) (c - pz) hX (by omega) (by unfold maxLen; omega))
      clear hG hX hbr hrl had
      cases o with
      | none =>
        unfold codeV at hc
        clear ho
        go_enter Tryz.func24, Tryz.ntmps24
        go_wp2_with fail
        refine hc.out.mono ?_
        rintro e w1 ⟨rfl, t1⟩
        obtain ⟨k0, k1, f0, f1⟩ := hC.out w1 t1
        simp only [List.getElem?_toArray, List.getElem?_cons_zero, Option.isSome_some] at k0 k1
        have F := Lib.hid (hF0'.out w1 t1 (by simp))
        clear t1 hC
        go_wp2_with fail
        go_ret
        exact F.out
      | some l =>
        have hl12 := hlo'.out l rfl
        unfold codeV at hc
        clear ho
        go_enter Tryz.func24, Tryz.ntmps24
        go_wp2_with fail
        refine hc.out.mono ?_
        rintro e w1 ⟨rfl, t1⟩
        obtain ⟨k0, k1, f0, f1⟩ := hC.out w1 t1
        simp only [List.getElem?_toArray, List.getElem?_cons_zero, Option.isSome_some] at k0 k1
        have F := Lib.hid (hF'.out w1 t1 l (by simp))
        clear t1 hC
        go_wp2_with fail
        go_ret
        exact F.out
theorem codeS_some (r : List Int) : codeS (some r) = ((getL r).getD [], (getL r).map fun l => r.drop (1 + l.length)) := by
  show (match getL r with | some l => (l, some (r.drop (1 + l.length))) | none => ([], none)) = _
  cases getL r <;> rfl
theorem coded_any (A : Option Addr) (n c : Nat) (zs : List Int) (B bok bat bbx : Nat) (s : Option (List Int)) (pz : Nat) (w : World) (h : GetW A n c zs B bok bat bbx s pz w) (hb : ∀ z ∈ zs, isByte z) :
    Calls Tryz.prog 24 #[.pointer (some ⟨bok, 0, none⟩), .pointer (some ⟨bbx, 0, none⟩), .pointer (some ⟨bat, 0, none⟩)] w (TkPost A n c zs B bok bat bbx (strV (codeS s).1) (codeS s).2 w) := by
  cases s with
  | none => exact coded_no A n c zs B bok bat bbx pz w h
  | some r =>
    rw [codeS_some]
    exact coded_yes A n c zs B bok bat bbx r pz w h hb _ rfl
end Go.Proofs.YtijmfglgeaaoaaaGreatDoor

