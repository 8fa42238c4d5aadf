/-
  A whole life: any step, what two disks have alike, and DiskLives' walk.
-/
import Derived.Test.YtmblonmpiomjgaaGreatLivB
namespace Go.Proofs.YtmblonmpiomjgaaGreat
open Go.RowKit Go.Maps

structure DoOk (w : World) (B : Nat) (x : DoV) : Prop where
  b0 : -9223372036854775808 ≤ x.op ∧ x.op ≤ 9223372036854775807
  b1 : -9223372036854775808 ≤ x.sec ∧ x.sec ≤ 9223372036854775807
  b2 : -9223372036854775808 ≤ x.num ∧ x.num ≤ 9223372036854775807
  b3 : 0 ≤ x.byt ∧ x.byt ≤ 255
  fates : FatesR w B x.F x.fn x.fs
  nil_ : x.F = none → x.fn = 0 ∧ x.fc = 0
theorem DoAt.ok {w : World} {B b o : Nat} {x : DoV} (h : DoAt w B b o x) : DoOk w B x := ⟨h.b0, h.b1, h.b2, h.b3, h.fates, h.nil_⟩
theorem step_any {w : World} {base d s o r m : Nat} {lv : Value} {X : Nat → RS} {A : DA} (h : Both w base d s o r lv m X A) (x : DoV) (hx : DoOk w base x) (hfn : x.fn ≤ 1000000) (hlo : ∀ k, dskW d s o k → base ≤ k) :
    Calls Tryz.prog 8 #[.pointer (some ⟨d, 0, none⟩), .pointer (some ⟨r, 0, none⟩), .agg #[.int .i64 x.op, .int .i64 x.sec, .int .i64 x.num, .int .u8 x.byt, .slice x.F x.fn x.fc]] w (StPost2 base d s o r lv m X (doNext A x) w) := by
  have e0 := Int.emod_nonneg x.op (show (8 : Int) ≠ 0 by omega)
  have e1 := Int.emod_lt_of_pos x.op (show (0 : Int) < 8 by omega)
  unfold doNext
  by_cases h2 : x.op % 8 ≤ 2
  · rw [if_pos h2]
    exact step_write h x hx.b0 hx.b2 hx.b3 (by omega)
  · rw [if_neg h2]
    by_cases h3 : x.op % 8 = 3
    · rw [if_pos h3]
      exact step_sync h x hx.b0 h3
    · rw [if_neg h3]
      by_cases h4 : x.op % 8 = 4
      · rw [if_pos h4]
        exact step_arm h x hx.b0 hx.b2 h4
      · rw [if_neg h4]
        by_cases h6 : x.op % 8 ≤ 6
        · rw [if_pos h6]
          exact step_read h x hx.b0 (by omega)
        · rw [if_neg h6]
          exact step_wake h x hx.b0 hx.fates hx.nil_ hfn hlo (by omega)

theorem Both.fresh {w w' : World} {base d s o r m : Nat} {lv : Value} {X : Nat → RS} {A : DA} (h : Both w base d s o r lv m X A) (ht : Turned (fun _ => False) w w') : Both w' base d s o r lv m X A := ⟨h.dsk.fresh ht, h.ref.fresh ht⟩
theorem DosR.keep {w w' : World} {W : Nat → Prop} {B n : Nat} {L : Option Addr} {X : Nat → DoV} (h : DosR w B L n X) (ht : Turned W w w') (hW : ∀ k, W k → B ≤ k) (hB : B ≤ w.heap.size) : DosR w' B L n X := h.below (ht.belowAt hW hB)
theorem Both.base {w : World} {base d s o r m : Nat} {lv : Value} {X : Nat → RS} {A : DA} (h : Both w base d s o r lv m X A) : base ≤ w.heap.size := by have := h.ref.rb; have := h.ref.r_lt; omega

def LikeRel (n : Nat) (w : World) (i : Value) (wr : World) : Prop := ∃ j : Nat, j ≤ n ∧ i = .int .i64 j ∧ Turned (fun _ => False) w wr
set_option maxRecDepth 100000 in
set_option maxHeartbeats 1000000 in
theorem like_any {w : World} {base d s o r m : Nat} {lv : Value} {X : Nat → RS} {A : DA} (h : Both w base d s o r lv m X A) (L : Option Addr) (n c : Nat) (D : Nat → DoV) (hL : DosR w base L n D) :
    Calls Tryz.prog 11 #[.pointer (some ⟨d, 0, none⟩), .pointer (some ⟨r, 0, none⟩), .slice L n c] w (OkNew w) := by
  have h' := Lib.hid h
  have hmx := hL.max
  have hL' := Lib.hid hL
  obtain ⟨c0, _, _, _, c4⟩ := dsk_cells h.dsk
  clear h hL
  go_enter Tryz.func11, Tryz.ntmps11
  go_wp2_with (first
    | (go_at_call 33; refine (down_any d A.down _ c4).mono ?_; rintro e w1 ⟨rfl, rfl⟩)
    | (go_at_call 34; refine (rdown_any h'.out.ref).mono ?_; rintro e w1 ⟨rfl, rfl⟩)
    | (go_at_call 20; refine (sectors_any d A.n _ c0).mono ?_; rintro e w1 ⟨rfl, rfl⟩)
    | (go_at_call 35; refine (rsectors_any h'.out.ref).mono ?_; rintro e w1 ⟨rfl, rfl⟩))
  clear c0 c4
  go_loopw [7] (fun i wr => LikeRel n w i wr) (fun i _ => n - (intOf i).toNat)
  case atStart => exact ⟨0, by omega, rfl, Turned.refl _ _⟩
  case round =>
    obtain ⟨j, hj, rfl, ht⟩ := hrel
    by_cases hlt : j < n
    · have hji : (j : Int) < (n : Int) := by omega
      obtain ⟨b, off, rfl, hb, hall⟩ := (hL'.out.keep ht (fun _ e => e.elim) h'.out.base).at_ (by omega)
      have hD := Lib.hid (hall j hlt)
      have q1 := (hall j hlt).c1
      clear hall
      have hbb := Lib.hid (h'.out.fresh ht)
      generalize hsec : (D j).sec = sec at q1
      have hsec' := Lib.hid hsec
      clear hsec
      go_wp2_with fail
      refine (dread_all hbb.out.dsk sec).mono ?_
      rintro e w2 ⟨v2, n2, c2, rfl, hb2, ht2, _, _⟩
      have q2 := cell_turned ht2 q1 (fun e => e)
      go_wp2_with fail
      refine (rread_all (hbb.out.ref.fresh ht2) sec).mono ?_
      rintro e w3 ⟨v3, n3, c3, rfl, hb3, ht3, _, _⟩
      have hb23 := hb2.turned ht3 (fun _ _ _ e => e)
      have hT3 := (ht.trans (W := fun _ => False) ht2 (fun _ e => e) (fun _ e => e.elim)).trans (W := fun _ => False) ht3 (fun _ e => e) (fun _ e => e.elim)
      generalize A.rCode sec = code
      go_wp2_with fail
      refine (same_yes _ _ _ _ _ _ _ _ _ hb23.toBytR hb3.toBytR rfl).mono ?_
      rintro e w4 ⟨rfl, n4, rfl⟩
      go_wp2_with fail
      go_roundw
      case rel =>
        first
        | exact ⟨j + 1, by omega, by go_num, hT3.drewN _⟩
        | ((repeat apply Exists.intro); exact ⟨⟨j + 1, by omega, by go_num, hT3.drewN _⟩, rfl⟩)
      case measure => simp [intOf]; omega
    · have hge : (n : Int) ≤ (j : Int) := by omega
      go_wp2
      go_ret
      exact ⟨rfl, ht⟩
end Go.Proofs.YtmblonmpiomjgaaGreat
