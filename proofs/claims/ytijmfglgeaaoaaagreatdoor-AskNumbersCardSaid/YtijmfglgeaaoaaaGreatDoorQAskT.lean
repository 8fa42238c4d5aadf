/-
  The document's reader (storemanref13): the next number, the next code. No condition but numbers.
-/
import Derived.Test.YtijmfglgeaaoaaaGreatDoorQAskG
import Derived.Test.YtijmfglgeaaoaaaGreatDoorQCodL
import Derived.IntWalk
namespace Go.Proofs.YtijmfglgeaaoaaaGreatDoor
open Go.RowKit Go.Maps
set_option linter.unusedVariables false
set_option linter.unusedSimpArgs false

/-- Block r is a reader: the bytes, where it is, are bytes wanting. -/
structure DRd (A : Option Addr) (n c : Nat) (zs : List Int) (B r : Nat) (s : Option (List Int)) (pz : Nat) (w : World) : Prop where
  blk : Blk w r 58 #[.slice A n c, .int .i64 (pz : Int), .bool s.isNone]
  byt : BytS w A n c zs
  le : pz ≤ n
  is_ : ∀ q, s = some q → q = zs.drop pz
  far : 0 < n → ∀ b o, A = some ⟨b, o, none⟩ → b < B
  b1 : B ≤ r
  nc : n ≤ c
  cm : c ≤ maxLen
  few : n ≤ 1000000
section
variable {A : Option Addr} {n c : Nat} {zs : List Int} {B r : Nat} {s : Option (List Int)} {pz : Nat} {w w' : World}
theorem DRd.turned {W : Nat → Prop} (h : DRd A n c zs B r s pz w) (ht : Turned W w w') (hW : ∀ i, W i → i ≠ r ∧ B ≤ i) : DRd A n c zs B r s pz w' :=
  ⟨h.blk.turned ht (fun e => (hW _ e).1 rfl), h.byt.turned0 ht (fun hn b o e e2 => by have := h.far hn b o e; have := (hW _ e2).2; omega), h.le, h.is_, h.far, h.b1, h.nc, h.cm, h.few⟩
theorem DRd.fresh (h : DRd A n c zs B r s pz w) (ht : Turned (fun _ => False) w w') : DRd A n c zs B r s pz w' := h.turned ht (fun _ e => e.elim)
theorem DRd.put (h : DRd A n c zs B r s pz w) {s' : Option (List Int)} {at' : Nat} (ht : Turned (· = r) w w') (h1 : Blk w' r 58 #[.slice A n c, .int .i64 (at' : Int), .bool s'.isNone]) (hle : at' ≤ n) (his : ∀ q, s' = some q → q = zs.drop at') : DRd A n c zs B r s' at' w' :=
  ⟨h1, h.byt.turned0 ht (fun hn b o e e2 => by have := h.far hn b o e; have := h.b1; omega), hle, his, h.far, h.b1, h.nc, h.cm, h.few⟩
theorem DRd.bytes (h : DRd A n c zs B r s pz w) (hb : ∀ z ∈ zs, isByte z) : BytesO s := fun ys e y hy => by
  rw [h.is_ ys e] at hy
  exact hb y (List.mem_of_mem_drop hy)
end
def DTk (A : Option Addr) (n c : Nat) (zs : List Int) (B r : Nat) (v : Value) (s : Option (List Int)) (w : World) (e : Ending) (w' : World) : Prop :=
  e = .returned v ∧ (∃ at', DRd A n c zs B r s at' w') ∧ Turned (· = r) w w'
theorem u64_step (x c : Int) : IntKind.u64.wrap (IntKind.u64.wrap (256 * IntKind.u64.wrap x) + c) = IntKind.u64.wrap (x * 256 + c) := by
  rw [IntKind.wrap_u64, IntKind.wrap_u64, IntKind.wrap_u64, IntKind.wrap_u64]
  omega
theorem u64_i64 (x : Int) : IntKind.i64.wrap (IntKind.u64.wrap x) = IntKind.i64.wrap x := by
  rw [IntKind.wrap_i64, IntKind.wrap_i64, IntKind.wrap_u64]
  omega
def NuRel (k : Nat) (q : List Int) (w : World) (v i : Value) (wr : World) : Prop := ∃ j m : Nat, j ≤ k ∧ i = .int .i64 j ∧ v = .int .u64 (IntKind.u64.wrap (rawN (q.take j))) ∧ wr = w.drewN m
set_option maxRecDepth 100000 in
set_option maxHeartbeats 1000000 in
theorem dnum_no (A : Option Addr) (n c : Nat) (zs : List Int) (B r : Nat) (s : Option (List Int)) (pz k : Nat) (w : World) (h : DRd A n c zs B r s pz w) (hk : k ≤ 8) (hs : s = none ∨ n < pz + k) :
    Calls Tryz.prog 27 #[.pointer (some ⟨r, 0, none⟩), .int .i64 k] w (DTk A n c zs B r (.int .i64 0) none w) := by
  have q0 := h.blk.cell 0
  have q1 := h.blk.cell 1
  have q2 := h.blk.cell 2
  have f2 := h.blk.frozen 2
  have hF := Lib.hid (show ∀ m, DTk A n c zs B r (.int .i64 0) none w (.returned (.int .i64 0)) ((w.drewN m).setCell ⟨r, 2, none⟩ (.bool true)) from fun m => by
    have t1 := (Turned.refl (fun _ => False) w).drewN m
    have h1 := h.fresh t1
    have tS : Turned (· = r) (w.drewN m) ((w.drewN m).setCell ⟨r, 2, none⟩ (.bool true)) := (Turned.refl (· = r) _).setCell (p := ⟨r, 2, none⟩) (.inl rfl) _
    have hb := h1.blk.set_ 2 (.bool true)
    simp only [List.setIfInBounds_toArray, List.set_cons_zero, List.set_cons_succ] at hb
    exact ⟨rfl, ⟨pz, h1.put tS hb h.le (fun r e => by cases e)⟩, (t1.mono (fun _ e => e.elim)).trans (W := (· = r)) tS (fun _ e => e) (fun _ e => .inl e)⟩)
  have hC := Lib.hid (fun m => And.intro (((h.fresh ((Turned.refl (fun _ => False) w).drewN m)).blk).cell 2) (((h.fresh ((Turned.refl (fun _ => False) w).drewN m)).blk).frozen 2))
  have hle := h.le
  have hcm := h.cm
  have hfw := h.few
  have hnc := h.nc
  unfold maxLen at hcm
  clear h
  simp only [List.getElem?_toArray, List.getElem?_cons_zero, List.getElem?_cons_succ] at q0 q1 q2
  cases s with
  | none =>
    clear hs
    simp only [Option.isNone_none] at q2
    go_enter Tryz.func27, Tryz.ntmps27
    go_wp2_with fail
    go_quiet (fail)
    go_wp2_with fail
    go_ret
    exact hF.out _
  | some q =>
    have hi : (n : Int) - (pz : Int) < (k : Int) := by
      rcases hs with e | e
      · cases e
      · omega
    have hid : decide ((k : Int) ≤ (n : Int) - (pz : Int)) = false := decide_eq_false (by omega)
    simp only [Option.isNone_some] at q2
    go_enter Tryz.func27, Tryz.ntmps27
    go_wp2_with fail
    go_quiet (fail)
    go_wp2_with fail
    go_ret
    exact hF.out _
set_option maxRecDepth 100000 in
set_option maxHeartbeats 1000000 in
theorem dnum_yes (A : Option Addr) (n c : Nat) (zs : List Int) (B r : Nat) (q : List Int) (pz k : Nat) (w : World) (h : DRd A n c zs B r (some q) pz w) (hb : ∀ z ∈ zs, isByte z) (hk1 : 1 ≤ k) (hk : k ≤ 8) (hs : pz + k ≤ n) :
    Calls Tryz.prog 27 #[.pointer (some ⟨r, 0, none⟩), .int .i64 k] w (DTk A n c zs B r (.int .i64 (decN (q.take k))) (some (q.drop k)) w) := by
  have hn0 : 0 < n := by omega
  obtain ⟨b, off, hA, hcell⟩ := h.byt.cell hn0
  subst hA
  have hr := h.is_ q rfl
  have hl := h.byt.len
  have q0 := h.blk.cell 0
  have q1 := h.blk.cell 1
  have q2 := h.blk.cell 2
  simp only [List.getElem?_toArray, List.getElem?_cons_zero, List.getElem?_cons_succ, Option.isNone_some] at q0 q1 q2
  have hle := h.le
  have hcm := h.cm
  have hfw := h.few
  have hnc := h.nc
  unfold maxLen at hcm
  have hi : (k : Int) ≤ (n : Int) - (pz : Int) := by omega
  have hrl : q.length = n - pz := by rw [hr, List.length_drop, hl]
  have hd : ∀ j, j < k → w.cell? ⟨b, off + (pz + j), none⟩ = some (.int .u8 (q.getD j 0)) := fun j hj => by
    rw [hcell (pz + j) (by omega), hr]
    simp only [List.getD_eq_getElem?_getD, List.getElem?_drop]
  have hsub : ∀ z ∈ q, z ∈ zs := fun z hz => by
    rw [hr] at hz
    exact List.mem_of_mem_drop hz
  have hbr : ∀ j, j < k → isByte (q.getD j 0) := fun j hj => by
    rw [List.getD_eq_getElem?_getD, List.getElem?_eq_getElem (by omega), Option.getD_some]
    exact hb _ (hsub _ (List.getElem_mem _))
  have hF := Lib.hid (show ∀ m, DTk (some ⟨b, off, none⟩) n c zs B r (.int .i64 (decN (q.take k))) (some (q.drop k)) w (.returned (.int .i64 (decN (q.take k)))) ((w.drewN m).setCell ⟨r, 1, none⟩ (.int .i64 ((pz : Int) + (k : Int)))) from fun m => by
    have t1 := (Turned.refl (fun _ => False) w).drewN m
    have h1 := h.fresh t1
    have tS : Turned (· = r) (w.drewN m) ((w.drewN m).setCell ⟨r, 1, none⟩ (.int .i64 ((pz : Int) + (k : Int)))) := (Turned.refl (· = r) _).setCell (p := ⟨r, 1, none⟩) (.inl rfl) _
    have hb := h1.blk.set_ 1 (.int .i64 ((pz : Int) + (k : Int)))
    simp only [List.setIfInBounds_toArray, List.set_cons_zero, List.set_cons_succ] at hb
    refine ⟨rfl, ⟨pz + k, h1.put tS ?_ hs (fun r' e => ?_)⟩, (t1.mono (fun _ e => e.elim)).trans (W := (· = r)) tS (fun _ e => e) (fun _ e => .inl e)⟩
    · rw [show ((pz + k : Nat) : Int) = (pz : Int) + (k : Int) by omega]
      exact hb
    · injection e with e
      rw [← e, hr, List.drop_drop])
  have hC := Lib.hid (fun m => And.intro (((h.fresh ((Turned.refl (fun _ => False) w).drewN m)).blk).cell 0) (And.intro (((h.fresh ((Turned.refl (fun _ => False) w).drewN m)).blk).cell 1) (((h.fresh ((Turned.refl (fun _ => False) w).drewN m)).blk).frozen 1)))
  have hd' := Lib.hid (fun (m j : Nat) (hj : j < k) => cell_turned ((Turned.refl (fun _ => False) w).drewN m) (hd j hj) (fun e => e))
  have hbr' := Lib.hid hbr
  have hrl' := Lib.hid hrl
  clear h hcell hd hbr hrl hr hl
  go_enter Tryz.func27, Tryz.ntmps27
  go_wp2_with fail
  go_quiet (fail)
  go_wp2_with fail
  go_loopw [5, 6] (fun v i wr => NuRel k q w v i wr) (fun _ i _ => k - (intOf i).toNat)
  case atStart => exact ⟨0, _, Nat.zero_le _, rfl, rfl, rfl⟩
  case round =>
    obtain ⟨j, m, hj, rfl, rfl, hwr⟩ := hrel
    obtain ⟨c0, c1, f1⟩ := hC.out m
    rw [← hwr] at c0 c1 f1
    simp only [List.getElem?_toArray, List.getElem?_cons_zero, List.getElem?_cons_succ] at c0 c1
    by_cases hlt : j < k
    · have hji : (j : Int) < (k : Int) := by omega
      have q5 := hd'.out m j hlt
      rw [← hwr] at q5
      have hwr' := Lib.hid hwr
      have hcb := hbr'.out j hlt
      unfold isByte at hcb
      have hpn : (pz : Int) + (j : Int) < (n : Int) := by omega
      have hsn : q.take (j + 1) = q.take j ++ [q.getD j 0] := by
        rw [List.take_succ_eq_append_getElem (by rw [hrl'.out]; omega)]
        rw [List.getD_eq_getElem?_getD, List.getElem?_eq_getElem (by rw [hrl'.out]; omega)]
        rfl
      have hst := Lib.hid (show rawN (q.take (j + 1)) = rawN (q.take j) * 256 + q.getD j 0 by rw [hsn, rawN_snoc])
      clear hsn hwr q0 q1 q2
      generalize rawN (q.take j) = v at *
      generalize q.getD j 0 = x at *
      have hstep := Lib.hid (u64_step v x)
      go_wp2_with fail
      go_quiet (fail)
      go_wp2_with fail
      have hR : NuRel k q w (.int .u64 (IntKind.u64.wrap (IntKind.u64.wrap (256 * IntKind.u64.wrap v) + x))) (.int .i64 ((j + 1 : Nat) : Int)) (wr.drewN nq) := ⟨j + 1, m + nq, hlt, rfl, by rw [hst.out, ← hstep.out], by rw [hwr'.out, World.drewN_drewN]⟩
      have hR := Lib.hid hR
      go_roundw
      case rel =>
        first
        | exact hR.out
        | ((repeat apply Exists.intro); exact ⟨hR.out, rfl⟩)
      case measure => simp [intOf] <;> omega
    · obtain rfl : j = k := by omega
      have hge : (j : Int) ≤ (j : Int) := Int.le_refl _
      have hwr' := Lib.hid hwr
      have hfin := Lib.hid (show wrap64 (IntKind.u64.wrap (rawN (q.take j))) = decN (q.take j) by rw [decN_raw, ← u64_i64, IntKind.wrap_i64]; unfold wrap64; omega)
      clear hwr q0 q1 q2
      go_wp2_with fail
      go_ret
      have hE := hF.out m
      rw [← hwr'.out] at hE
      show DTk (some ⟨b, off, none⟩) n c zs B r (.int .i64 (decN (q.take j))) (some (q.drop j)) w (.returned (.int .i64 (wrap64 (IntKind.u64.wrap (rawN (q.take j)))))) _
      rw [hfin.out]
      exact hE
theorem dnum_any (A : Option Addr) (n c : Nat) (zs : List Int) (B r : Nat) (s : Option (List Int)) (pz k : Nat) (w : World) (h : DRd A n c zs B r s pz w) (hb : ∀ z ∈ zs, isByte z) (hk1 : 1 ≤ k) (hk : k ≤ 8) :
    Calls Tryz.prog 27 #[.pointer (some ⟨r, 0, none⟩), .int .i64 k] w (DTk A n c zs B r (.int .i64 (numS k s).1) (numS k s).2 w) := by
  unfold numS
  cases s with
  | none => exact dnum_no A n c zs B r none pz k w h hk (.inl rfl)
  | some q =>
    have hr := h.is_ q rfl
    have hrl : q.length = n - pz := by rw [hr, List.length_drop, h.byt.len]
    have hle := h.le
    by_cases hs : pz + k ≤ n
    · rw [takeS_some (by omega)]
      exact dnum_yes A n c zs B r q pz k w h hb hk1 hk hs
    · rw [takeS_short (by omega)]
      exact dnum_no A n c zs B r (some q) pz k w h hk (.inr (by omega))
/-! Code -/
set_option maxRecDepth 100000 in
set_option maxHeartbeats 1000000 in
theorem dcode_no (A : Option Addr) (n c : Nat) (zs : List Int) (B r pz : Nat) (w : World) (h : DRd A n c zs B r none pz w) :
    Calls Tryz.prog 29 #[.pointer (some ⟨r, 0, none⟩)] w (DTk A n c zs B r (.string ⟨#[]⟩) none w) := by
  have q2 := h.blk.cell 2
  simp only [List.getElem?_toArray, List.getElem?_cons_zero, List.getElem?_cons_succ, Option.isNone_none] at q2
  have h' := Lib.hid h
  clear h
  go_enter Tryz.func29, Tryz.ntmps29
  go_wp2
  go_ret
  exact ⟨rfl, ⟨pz, h'.out⟩, Turned.refl _ _⟩
set_option maxRecDepth 100000 in
set_option maxHeartbeats 1000000 in
theorem dcode_yes (A : Option Addr) (n c : Nat) (zs : List Int) (B r : Nat) (q : List Int) (pz : Nat) (w : World) (h : DRd A n c zs B r (some q) pz w) (hb : ∀ z ∈ zs, isByte z) (o : Option (List UInt8)) (ho : getL q = o) :
    Calls Tryz.prog 29 #[.pointer (some ⟨r, 0, none⟩)] w (DTk A n c zs B r (strV ((o.getD []))) (o.map fun l => q.drop (1 + l.length)) w) := by
  have hr := h.is_ q rfl
  have hl := h.byt.len
  have hle := h.le
  have hcm := h.cm
  have hfw := h.few
  have hnc := h.nc
  have hbr : ∀ z ∈ q, isByte z := fun z hz => hb z (by rw [hr] at hz; exact List.mem_of_mem_drop hz)
  have hrl : q.length = n - pz := by rw [hr, List.length_drop, hl]
  have q0 := h.blk.cell 0
  have q1 := h.blk.cell 1
  have q2 := h.blk.cell 2
  simp only [List.getElem?_toArray, List.getElem?_cons_zero, List.getElem?_cons_succ, Option.isNone_some] at q0 q1 q2
  have hG : ∀ (A' : Option Addr) (c' : Nat), BytR w A' (n - pz) q → n - pz ≤ c' → c' ≤ maxLen → Calls Tryz.prog 55 #[.slice A' (n - pz) c'] w.drew (fun e w' => e = .returned (codeV o) ∧ Turned (fun _ => False) w w') := fun A' c' h1 h2 h3 => by
    have := rget_any A' (n - pz) c' q w.drew (h1.turned ((Turned.refl (fun _ => False) w).drew) (fun _ _ _ e => e)) hbr h2 h3
    rw [ho] at this
    refine this.mono ?_
    rintro e w' ⟨rfl, t⟩
    refine ⟨?_, ((Turned.refl (fun _ => False) w).drew).and_ t⟩
    cases o <;> rfl
  have mixed : Tryz.prog.follows .mixedOrders = true := by kernel_rfl
  obtain ⟨SS, hSS⟩ : ∃ SS : World → Prop, ∀ w', SS w' ↔ (w'.cell? ⟨r, 0, none⟩ = some (.slice A n c) ∧ w'.cell? ⟨r, 1, none⟩ = some (.int .i64 (pz : Int))) := ⟨_, fun _ => Iff.rfl⟩
  have hSw := Lib.hid (show SS w.drew from (hSS _).2 ⟨q0, q1⟩)
  have hSt := Lib.hid (fun (w1 : World) (t : Turned (fun _ => False) w w1) => (hSS w1).2 ⟨cell_turned t q0 (fun e => e), cell_turned t q1 (fun e => e)⟩)
  have hSS := Lib.hid hSS
  have hF : ∀ w1, Turned (fun _ => False) w w1 → ∀ (l : List UInt8), o = some l → DTk A n c zs B r (strV ((o.getD []))) (o.map fun l => q.drop (1 + l.length)) w (.returned (.string ⟨l.toArray⟩)) ((w1.setCell ⟨r, 2, none⟩ (.bool false)).setCell ⟨r, 1, none⟩ (.int .i64 ((pz : Int) + (1 + (l.length : Int))))) := by
    rintro w1 t1 l rfl
    have hp := put_get hbr ho
    have hW := h.fresh t1
    have tS : Turned (· = r) w1 ((w1.setCell ⟨r, 2, none⟩ (.bool false)).setCell ⟨r, 1, none⟩ (.int .i64 ((pz : Int) + (1 + (l.length : Int))))) := ((Turned.refl (· = r) w1).setCell (p := ⟨r, 2, none⟩) (.inl rfl) _).setCell (p := ⟨r, 1, none⟩) (.inl rfl) _
    refine ⟨rfl, ⟨pz + (1 + l.length), hW.put tS ?_ (by omega) (fun r' e => ?_)⟩, (t1.mono (fun _ e => e.elim)).trans (W := (· = r)) tS (fun _ e => e) (fun _ e => .inl e)⟩
    · have := (hW.blk.set_ 2 (.bool false)).set_ 1 (.int .i64 ((pz : Int) + (1 + (l.length : Int))))
      simp only [List.setIfInBounds_toArray, List.set_cons_zero, List.set_cons_succ] at this
      rw [show ((pz + (1 + l.length) : Nat) : Int) = (pz : Int) + (1 + (l.length : Int)) by omega]
      exact this
    · simp only [Option.map_some, Option.some.injEq] at e
      rw [← e, hr, List.drop_drop]
  have hF0 : ∀ w1, Turned (fun _ => False) w w1 → o = none → DTk A n c zs B r (strV ((o.getD []))) (o.map fun l => q.drop (1 + l.length)) w (.returned (.string ⟨#[]⟩)) ((w1.setCell ⟨r, 2, none⟩ (.bool true)).setCell ⟨r, 1, none⟩ (.int .i64 (pz : Int))) := by
    rintro w1 t1 rfl
    have hW := h.fresh t1
    have tS : Turned (· = r) w1 ((w1.setCell ⟨r, 2, none⟩ (.bool true)).setCell ⟨r, 1, none⟩ (.int .i64 (pz : Int))) := ((Turned.refl (· = r) w1).setCell (p := ⟨r, 2, none⟩) (.inl rfl) _).setCell (p := ⟨r, 1, none⟩) (.inl rfl) _
    refine ⟨rfl, ⟨pz, hW.put tS ?_ h.le (fun r' e => by cases e)⟩, (t1.mono (fun _ e => e.elim)).trans (W := (· = r)) tS (fun _ e => e) (fun _ e => .inl e)⟩
    have := (hW.blk.set_ 2 (.bool true)).set_ 1 (.int .i64 (pz : Int))
    simp only [List.setIfInBounds_toArray, List.set_cons_zero, List.set_cons_succ] at this
    exact this
  have hC := Lib.hid (fun (w1 : World) (t1 : Turned (fun _ => False) w w1) => And.intro ((h.fresh t1).blk.cell 1) (And.intro ((h.fresh t1).blk.cell 2) (And.intro ((h.fresh t1).blk.frozen 1) ((h.fresh t1).blk.frozen 2))))
  have hrd := Lib.hid hr
  have hlo : ∀ l, o = some l → l.length ≤ 12 := fun l e => by
    have := put_get hbr (ho.trans e)
    have := putOk_len this.1
    omega
  have hF' := Lib.hid hF
  have hF0' := Lib.hid hF0
  have hlo' := Lib.hid hlo
  unfold maxLen at hcm
  have hbyt := Lib.hid h.byt
  clear hF hF0 hlo h hr hl
  cases A with
  | none =>
    obtain ⟨h0, h0c⟩ := hbyt.out.nil_ rfl
    subst h0 h0c
    obtain rfl : pz = 0 := by omega
    have hr0 : q = [] := List.length_eq_zero_iff.1 (by omega)
    have ho0 : o = none := by rw [← ho, hr0]; rfl
    have hc := Lib.hid (hG none 0 (by rw [hr0]; exact BytR.none_ w) (Nat.le_refl _) (by unfold maxLen; omega))
    subst ho0
    unfold codeV at hc
    clear hG ho hbr hrl
    go_enter Tryz.func29, Tryz.ntmps29
    go_wp2_with fail
    refine wp_region_segs SS (segT [0, 1, 2, 3, 4, 5, 6, 7, 8] ++ segF [9] ++ segT [10, 11, 12, 13, 14, 15, 16]) mixed (by kernel_rfl) (fun _ _ _ _ _ h => h) ?_
    simp only [segT, segF, pickSegs, List.map_cons, List.map_nil, List.cons_append, List.nil_append, List.filterMap_cons, List.filterMap_nil, List.getElem?_cons_zero, List.getElem?_cons_succ, Option.map_some]
    have hS := hSw.out
    iterate 9 (refine wpSegs_take (v := ?_) hS rfl (fun w' hw => ?_) ?_; rotate_left; (focus (obtain ⟨hw0, hw1⟩ := (hSS.out _).1 hw; go_simp; (try with_reducible rfl); done)); try simp only [Act.put, List.setIfInBounds_toArray, List.set_cons_zero, List.set_cons_succ])
    refine wpSegs_run rfl (fun K hK => ?_)
    go_simp
    refine hc.out.mono ?_
    rintro e w1 ⟨rfl, t1⟩
    have hS := hSt.out w1 t1
    refine hK.out _ _ hS ?_
    clear hK K
    iterate 7 (refine wpSegs_take (v := ?_) hS rfl (fun w' hw => ?_) ?_; rotate_left; (focus (obtain ⟨hw0, hw1⟩ := (hSS.out _).1 hw; go_simp; (try with_reducible rfl); done)); try simp only [Act.put, List.setIfInBounds_toArray, List.set_cons_zero, List.set_cons_succ])
    refine wpSegs_nil ?_
    clear hS
    obtain ⟨k0, k1, f0, f1⟩ := hC.out w1 t1
    simp only [List.getElem?_toArray, List.getElem?_cons_zero, List.getElem?_cons_succ, Option.isNone_some] at k0 k1
    have F := Lib.hid (hF0'.out w1 t1 (by simp))
    clear t1 hC
    go_wp2_with fail
    go_ret
    exact F.out
  | some ad =>
    have hsm : ∃ b off, ad = ⟨b, off, none⟩ ∨ n = 0 := by
      rcases Nat.eq_zero_or_pos n with h0 | h0
      · exact ⟨0, 0, .inr h0⟩
      · obtain ⟨b, off, e, _⟩ := hbyt.out.cell h0
        injection e with e
        exact ⟨b, off, .inl e⟩
    by_cases hpc : pz = c
    · have hr0 : q = [] := List.length_eq_zero_iff.1 (by omega)
      have hn : n - pz = 0 := by omega
      have ho0 : o = none := by rw [← ho, hr0]; rfl
      have hc := hG (some ad) 0 (by rw [hr0, hn]; exact ⟨rfl, by omega, fun h => absurd h (by omega)⟩) (by omega) (by unfold maxLen; omega)
      rw [hn] at hc
      obtain rfl : n = c := by omega
      subst hpc
      subst ho0
      unfold codeV at hc
      have hc := Lib.hid hc
      clear hG ho hbr hrl hn
      go_enter Tryz.func29, Tryz.ntmps29
      go_wp2_with fail
      refine wp_region_segs SS (segT [0, 1, 2, 3, 4, 5, 6, 7, 8] ++ segF [9] ++ segT [10, 11, 12, 13, 14, 15, 16]) mixed (by kernel_rfl) (fun _ _ _ _ _ h => h) ?_
      simp only [segT, segF, pickSegs, List.map_cons, List.map_nil, List.cons_append, List.nil_append, List.filterMap_cons, List.filterMap_nil, List.getElem?_cons_zero, List.getElem?_cons_succ, Option.map_some]
      have hS := hSw.out
      iterate 9 (refine wpSegs_take (v := ?_) hS rfl (fun w' hw => ?_) ?_; rotate_left; (focus (obtain ⟨hw0, hw1⟩ := (hSS.out _).1 hw; go_simp; (try with_reducible rfl); done)); try simp only [Act.put, List.setIfInBounds_toArray, List.set_cons_zero, List.set_cons_succ])
      refine wpSegs_run rfl (fun K hK => ?_)
      go_simp
      refine hc.out.mono ?_
      rintro e w1 ⟨rfl, t1⟩
      have hS := hSt.out w1 t1
      refine hK.out _ _ hS ?_
      clear hK K
      iterate 7 (refine wpSegs_take (v := ?_) hS rfl (fun w' hw => ?_) ?_; rotate_left; (focus (obtain ⟨hw0, hw1⟩ := (hSS.out _).1 hw; go_simp; (try with_reducible rfl); done)); try simp only [Act.put, List.setIfInBounds_toArray, List.set_cons_zero, List.set_cons_succ])
      refine wpSegs_nil ?_
      clear hS
      obtain ⟨k0, k1, f0, f1⟩ := hC.out w1 t1
      simp only [List.getElem?_toArray, List.getElem?_cons_zero, List.getElem?_cons_succ, Option.isNone_some] at k0 k1
      have F := Lib.hid (hF0'.out w1 t1 (by simp))
      clear t1 hC
      go_wp2_with fail
      go_ret
      exact F.out
    · have hlt : pz < c := by omega
      have hpc2 : ¬ (c = pz) := by omega
      obtain ⟨b, off, had⟩ := hsm
      have hX : BytR w (some (ad.add pz)) (n - pz) q := by
        rcases had with rfl | h0
        · rw [Addr.add_mid]
          exact ⟨hrl, by have := hbyt.out.max; omega, fun h0 => by
            obtain ⟨b2, off2, e, hcl⟩ := hbyt.out.cell (by omega)
            injection e with e
            injection e with e1 e2
            subst e1 e2
            refine ⟨b, off + pz, rfl, fun j hj => ?_⟩
            rw [Nat.add_assoc, hcl (pz + j) (by omega), hrd.out]
            simp only [List.getD_eq_getElem?_getD, List.getElem?_drop]⟩
        · exact ⟨hrl, by omega, fun h => absurd h (by omega)⟩
      have hc := Lib.hid (hG (some (ad.add pz)) (c - pz) hX (by omega) (by unfold maxLen; omega))
      clear hG hX hbr hrl had
      cases o with
      | none =>
        unfold codeV at hc
        clear ho
        go_enter Tryz.func29, Tryz.ntmps29
        go_wp2_with fail
        refine wp_region_segs SS (segT [0, 1, 2, 3, 4, 5, 6, 7, 8] ++ segF [9] ++ segT [10, 11, 12, 13, 14, 15, 16]) mixed (by kernel_rfl) (fun _ _ _ _ _ h => h) ?_
        simp only [segT, segF, pickSegs, List.map_cons, List.map_nil, List.cons_append, List.nil_append, List.filterMap_cons, List.filterMap_nil, List.getElem?_cons_zero, List.getElem?_cons_succ, Option.map_some]
        have hS := hSw.out
        iterate 9 (refine wpSegs_take (v := ?_) hS rfl (fun w' hw => ?_) ?_; rotate_left; (focus (obtain ⟨hw0, hw1⟩ := (hSS.out _).1 hw; go_simp; (try with_reducible rfl); done)); try simp only [Act.put, List.setIfInBounds_toArray, List.set_cons_zero, List.set_cons_succ])
        refine wpSegs_run rfl (fun K hK => ?_)
        go_simp
        refine hc.out.mono ?_
        rintro e w1 ⟨rfl, t1⟩
        have hS := hSt.out w1 t1
        refine hK.out _ _ hS ?_
        clear hK K
        iterate 7 (refine wpSegs_take (v := ?_) hS rfl (fun w' hw => ?_) ?_; rotate_left; (focus (obtain ⟨hw0, hw1⟩ := (hSS.out _).1 hw; go_simp; (try with_reducible rfl); done)); try simp only [Act.put, List.setIfInBounds_toArray, List.set_cons_zero, List.set_cons_succ])
        refine wpSegs_nil ?_
        clear hS
        obtain ⟨k0, k1, f0, f1⟩ := hC.out w1 t1
        simp only [List.getElem?_toArray, List.getElem?_cons_zero, List.getElem?_cons_succ, Option.isNone_some] at k0 k1
        have F := Lib.hid (hF0'.out w1 t1 (by simp))
        clear t1 hC
        go_wp2_with fail
        go_ret
        exact F.out
      | some l =>
        have hl12 := hlo'.out l rfl
        unfold codeV at hc
        clear ho
        go_enter Tryz.func29, Tryz.ntmps29
        go_wp2_with fail
        refine wp_region_segs SS (segT [0, 1, 2, 3, 4, 5, 6, 7, 8] ++ segF [9] ++ segT [10, 11, 12, 13, 14, 15, 16]) mixed (by kernel_rfl) (fun _ _ _ _ _ h => h) ?_
        simp only [segT, segF, pickSegs, List.map_cons, List.map_nil, List.cons_append, List.nil_append, List.filterMap_cons, List.filterMap_nil, List.getElem?_cons_zero, List.getElem?_cons_succ, Option.map_some]
        have hS := hSw.out
        iterate 9 (refine wpSegs_take (v := ?_) hS rfl (fun w' hw => ?_) ?_; rotate_left; (focus (obtain ⟨hw0, hw1⟩ := (hSS.out _).1 hw; go_simp; (try with_reducible rfl); done)); try simp only [Act.put, List.setIfInBounds_toArray, List.set_cons_zero, List.set_cons_succ])
        refine wpSegs_run rfl (fun K hK => ?_)
        go_simp
        refine hc.out.mono ?_
        rintro e w1 ⟨rfl, t1⟩
        have hS := hSt.out w1 t1
        refine hK.out _ _ hS ?_
        clear hK K
        iterate 7 (refine wpSegs_take (v := ?_) hS rfl (fun w' hw => ?_) ?_; rotate_left; (focus (obtain ⟨hw0, hw1⟩ := (hSS.out _).1 hw; go_simp; (try with_reducible rfl); done)); try simp only [Act.put, List.setIfInBounds_toArray, List.set_cons_zero, List.set_cons_succ])
        refine wpSegs_nil ?_
        clear hS
        obtain ⟨k0, k1, f0, f1⟩ := hC.out w1 t1
        simp only [List.getElem?_toArray, List.getElem?_cons_zero, List.getElem?_cons_succ, Option.isNone_some] at k0 k1
        have F := Lib.hid (hF'.out w1 t1 l (by simp))
        clear t1 hC
        go_wp2_with fail
        go_ret
        exact F.out
theorem dcode_any (A : Option Addr) (n c : Nat) (zs : List Int) (B r : Nat) (s : Option (List Int)) (pz : Nat) (w : World) (h : DRd A n c zs B r s pz w) (hb : ∀ z ∈ zs, isByte z) :
    Calls Tryz.prog 29 #[.pointer (some ⟨r, 0, none⟩)] w (DTk A n c zs B r (strV (codeS s).1) (codeS s).2 w) := by
  cases s with
  | none => exact dcode_no A n c zs B r pz w h
  | some q =>
    rw [codeS_some]
    exact dcode_yes A n c zs B r q pz w h hb _ rfl
end Go.Proofs.YtijmfglgeaaoaaaGreatDoor

