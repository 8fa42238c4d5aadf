/-
  DiskArmed's walk.
-/
import Derived.Test.YtobjoafhhchjgaaNil
import Derived.Test.YtobjoafhhchjgaaOpenD
namespace Go.Proofs.Ytobjoafhhchjgaa
open Go.RowKit Go.Maps

def stCode (A : DA) : Int := if A.down then 8 else codeOf (tickD A.armed)
def StepPost (c : Int) (d s o : Nat) (A : DA) (w : World) (e : Ending) (w' : World) : Prop :=
  e = .returned (.int .i64 c) ∧ ∃ A' : DA, IsDisk w' d s o A' ∧ A'.n = A.n ∧ A'.down = (A.down || tickD A.armed) ∧ (A.down = false → A'.armed = tickA A.armed) ∧ Turned (dskW d s o) w w'
theorem sync_any (d s o : Nat) (A : DA) (w : World) (c : Int) (h : IsDisk w d s o A) (hc : stCode A = c) :
    Calls Try.prog 17 #[.pointer (some ⟨d, 0, none⟩)] w (StepPost c d s o A w) := by
  subst hc
  cases hd : A.down with
  | true =>
    obtain ⟨c0, c1, c2, c3, c4⟩ := cells_of_blk h.blk
    rw [hd] at c4
    refine (sync_err _ 8 _ (may_down d A.n 0 _ c0 h.n1 c4) rfl).mono ?_
    rintro e w' ⟨rfl, rfl⟩
    exact ⟨by simp [stCode, hd], A, h, rfl, by simp [hd], by simp [hd], Turned.refl _ _⟩
  | false =>
    cases ht : tickD A.armed with
    | true =>
      refine (sync_crash d s o A _ h hd ht).mono ?_
      rintro e w' ⟨rfl, h1, h2⟩
      have e1 : A.sync = { A with armed := tickA A.armed, down := true } := by unfold DA.sync; rw [if_pos ht]
      rw [e1] at h1
      exact ⟨by simp [stCode, hd, ht, codeOf], _, h1, rfl, by simp [ht], fun _ => rfl, h2⟩
    | false =>
      refine (sync_ok d s o A _ h hd ht).mono ?_
      rintro e w' ⟨rfl, h1, h2⟩
      have e1 : A.sync = { A with saf := A.lat, opn := fun _ => false, armed := tickA A.armed, down := false } := by unfold DA.sync; rw [ht]; rfl
      rw [e1] at h1
      exact ⟨by simp [stCode, hd, ht, codeOf], _, h1, rfl, by simp [hd, ht], fun _ => rfl, h2⟩
theorem write_any (d s o : Nat) (A : DA) (k : Int) (g cap : Nat) (zs : List Int) (w : World) (c : Int) (h : IsDisk w d s o A) (h0 : 0 ≤ k) (h1 : k < A.n) (hr : RowB w 5 g 512 cap zs) (hz : Sec zs) (hc : stCode A = c) :
    Calls Try.prog 18 #[.pointer (some ⟨d, 0, none⟩), .int .i64 k, .slice (some ⟨g, 0, none⟩) 512 cap] w (StepPost c d s o A w) := by
  subst hc
  cases hd : A.down with
  | true =>
    obtain ⟨c0, c1, c2, c3, c4⟩ := cells_of_blk h.blk
    rw [hd] at c4
    refine (write_err _ k 8 _ (may_down d A.n k _ c0 h.n1 c4) rfl _).mono ?_
    rintro e w' ⟨rfl, rfl⟩
    exact ⟨by simp [stCode, hd], A, h, rfl, by simp [hd], by simp [hd], Turned.refl _ _⟩
  | false =>
    refine (write_ok d s o A k g cap zs w h hd h0 h1 hr hz.byte).mono ?_
    rintro e w' ⟨rfl, h1, h2⟩
    exact ⟨by simp [stCode, hd], _, h1, rfl, by simp [hd, DA.write], fun _ => rfl, h2⟩

def ArmInv (A : DA) (m : Int) (j : Nat) : Prop := A.n = 3 ∧ ((j : Int) < m → A.down = false ∧ A.armed = m - j) ∧ (m ≤ j → A.down = true)
theorem arm_code {A : DA} {m : Int} {j : Nat} (h : ArmInv A m j) : stCode A = if (j : Int) + 1 < m then 0 else 8 := by
  obtain ⟨_, h1, h2⟩ := h
  unfold stCode
  by_cases hj : (j : Int) < m
  · obtain ⟨e1, e2⟩ := h1 hj
    rw [e1, e2]
    by_cases h3 : (j : Int) + 1 < m
    · have ht : tickD A.armed = false := by unfold tickD; rw [e2]; simp; omega
      rw [e2] at ht
      rw [if_pos h3, ht]; rfl
    · have ht : tickD A.armed = true := by unfold tickD; rw [e2]; simp; omega
      rw [e2] at ht
      rw [if_neg h3, ht]; rfl
  · rw [h2 (by omega), if_pos rfl, if_neg (by omega)]
theorem arm_next {A A' : DA} {m : Int} {j : Nat} (h : ArmInv A m j) (hn : A'.n = A.n) (hd : A'.down = (A.down || tickD A.armed)) (ha : A.down = false → A'.armed = tickA A.armed) : ArmInv A' m (j + 1) := by
  obtain ⟨h0, h1, h2⟩ := h
  refine ⟨hn.trans h0, fun hj => ?_, fun hj => ?_⟩
  · obtain ⟨e1, e2⟩ := h1 (by omega)
    have : tickD A.armed = false := by unfold tickD; rw [e2]; simp; omega
    refine ⟨by rw [hd, e1, this]; rfl, ?_⟩
    rw [ha e1]
    unfold tickA
    rw [e2, if_pos (by omega)]
    omega
  · by_cases h3 : (j : Int) < m
    · obtain ⟨e1, e2⟩ := h1 h3
      have : tickD A.armed = true := by unfold tickD; rw [e2]; simp; omega
      rw [hd, this]; simp
    · rw [hd, h2 (by omega)]; rfl
/-- Whether it is down behind the step. -/
theorem arm_down_next {A A' : DA} {m : Int} {j : Nat} (h : ArmInv A m j) (hd : A'.down = (A.down || tickD A.armed)) : A'.down = !decide ((j : Int) + 1 < m) := by
  obtain ⟨h0, h1, h2⟩ := h
  rw [hd]
  by_cases hj : (j : Int) < m
  · obtain ⟨e1, e2⟩ := h1 hj
    rw [e1, e2]
    unfold tickD
    by_cases h3 : (j : Int) + 1 < m <;> simp [h3] <;> omega
  · rw [h2 (by omega)]; simp; omega

def ArmRel (d s o : Nat) (m : Int) (n : Nat) (w wr : World) (i : Value) : Prop := ∃ (j : Nat) (A : DA), j ≤ n ∧ i = .int .i64 j ∧ IsDisk wr d s o A ∧ ArmInv A m j ∧ Turned (fun _ => False) w wr

set_option maxRecDepth 100000 in
set_option maxHeartbeats 4000000 in
theorem diskArmed_any (n0 : Int) (hn0 : -9223372036854775808 ≤ n0 ∧ n0 ≤ 9223372036854775807) (L : Option Addr) (n c : Nat) (X : Nat → DoV) (w : World) (hL : DosR w w.heap.size L n X) (hnc : n ≤ c) (hcm : c ≤ maxLen) :
    Calls Try.prog 6 #[.int .i64 n0, .slice L n c] w (OkNew w) := by
  unfold maxLen at hcm
  have hmod := Int.emod_nonneg n0 (show (80 : Int) ≠ 0 by omega)
  have hmod2 := Int.emod_lt_of_pos n0 (show (0 : Int) < 80 by omega)
  have hL0 := Lib.hid hL
  clear hL
  by_cases h80 : n ≤ 80
  · go_enter Try.func6, Try.ntmps6
    go_wp2_with fail
    refine (awake_any _).mono ?_
    rintro e w1 ⟨rfl, ht1⟩
    go_wp2_with fail
    refine (pick_any n0 80 _ (by omega) (by omega) hn0.1 hn0.2).mono ?_
    rintro e w2 ⟨rfl, rfl⟩
    go_wp2_with fail
    refine (new_yes 3 _ (by omega) (by omega)).mono ?_
    rintro e w2 ⟨d, s, o, rfl, hD2, ht2, hfr, _⟩
    have hT2 := ht1.trans (W := fun _ => False) ht2 (fun _ h => h) (fun _ h => .inl h)
    have hfr' : ∀ k, dskW d s o k → w.heap.size ≤ k := fun k hk => Nat.le_trans ht1.size (hfr k hk)
    have hfr := Lib.hid hfr'
    clear hfr' ht1 ht2
    go_wp2_with fail
    generalize hm : 1 + n0 % 80 = m
    have hm1 : 1 ≤ m := by omega
    have hm2 : m ≤ 80 := by omega
    clear hm hmod hmod2
    refine (arm_up d s o 3 0 m _ hD2.blk).mono ?_
    rintro e w3 ⟨rfl, hB3, ht3⟩
    go_wp2_with fail
    -- THE REST IS PRINTED BY wip/gen_arm.py
    have hLn := hL0
    obtain ⟨A0, hA0⟩ : ∃ A0 : DA, A0 = (⟨3, fun _ => noughts, fun _ => noughts, fun _ => false, m, false⟩ : DA) := ⟨_, rfl⟩
    have hD3 : IsDisk w3 d s o A0 := by
      rw [hA0]
      obtain ⟨vs, vo, m1, m2, r⟩ := hD2.maps
      exact ⟨by have := hB3; rw [nonneg, if_pos (by omega)] at this; exact this, hD2.ne, by show (1 : Int) ≤ 3; omega, by show (3 : Int) ≤ 8192; omega, by show 0 ≤ m; omega, by show m ≤ 9223372036854775807; omega, vs, vo, m1.turned ht3 (fun e => m1.ne_blk hD2.blk e.symm), m2.turned ht3 (fun e => m2.ne_blk hD2.blk e.symm), r⟩
    have hI3 : ArmInv A0 m 0 := by rw [hA0]; exact ⟨rfl, fun _ => ⟨rfl, by simp⟩, fun h => by simp at h; omega⟩
    have hT3 := hT2.trans (W := fun _ => False) ht3 (fun _ h => h) (fun i hi => .inr (hfr.out i (.inl hi)))
    have hH3 := Lib.hid (And.intro hD3 hI3)
    clear hD2 hB3 ht3 hT2 hD3 hI3 hA0
    go_loopw [6] (fun i wr => ArmRel d s o m n w wr i) (fun i _ => n - (intOf i).toNat)
    case atStart => exact ⟨0, A0, Nat.zero_le _, rfl, hH3.out.1, hH3.out.2, hT3⟩
    case round =>
      obtain ⟨j, A, hj, rfl, hD, hI, hT⟩ := hrel
      have hI0 := Lib.hid hI
      clear hI hH3
      by_cases hjn : j < n
      · obtain ⟨lb, lo, rfl, hlb, hX⟩ := hLn.out.at_ (by omega)
        have hx := (hX j hjn).below (hT.below (fun _ e => e.elim)) hlb
        have hx0 := hx.c0
        have hx1 := hx.c1
        have hx3 := hx.c3
        have hb1 := hx.b1
        have hb3 := hx.b3
        generalize X j = x at *
        clear hX hx
        have hjc : (j : Int) < (n : Int) := by omega
        have hcode := arm_code hI0.out
        by_cases hop : x.op.tmod 2 = 0
        · have hopb : (x.op.tmod 2 == 0) = true := by simpa using hop
          clear hop
          by_cases hj1 : (j : Int) + 1 < m
          · rw [if_pos hj1] at hcode
            have hcode' := Lib.hid hcode
            clear hcode
            go_wp2_with (first
              | (go_at_call 17; refine (sync_any d s o A _ 0 hD hcode'.out).mono ?_; rintro e w4 ⟨rfl, A', q1, q2, q3, q4, q5⟩; have hqd := (cells_of_blk q1.blk).2.2.2.2; rw [arm_down_next hI0.out q3, decide_eq_true (by omega), Bool.not_true] at hqd; have hI' := Lib.hid (arm_next hI0.out q2 q3 q4); clear q2 q3 q4)
              | (go_at_call 24; refine (down_any d false _ hqd).mono ?_; rintro e w5 ⟨rfl, rfl⟩))
            have hTn := hT.trans (W := fun _ => False) q5 (fun _ h => h) (fun i hi => .inr (hfr.out i hi))
            have hRn : ArmRel d s o m n w _ (.int .i64 ((j + 1 : Nat) : Int)) := ⟨j + 1, A', by omega, rfl, q1, hI'.out, hTn⟩
            have hRn' := Lib.hid hRn
            clear hRn
            go_roundw
            case rel =>
              have hz : Value.int .i64 ((j : Int) + 1) = .int .i64 ((j + 1 : Nat) : Int) := by go_num
              first
              | (rw [hz]; exact hRn'.out)
              | ((repeat apply Exists.intro); exact ⟨by rw [hz]; exact hRn'.out, rfl⟩)
            case measure => simp [intOf]; omega
          · rw [if_neg hj1] at hcode
            have hcode' := Lib.hid hcode
            clear hcode
            go_wp2_with (first
              | (go_at_call 17; refine (sync_any d s o A _ 8 hD hcode'.out).mono ?_; rintro e w4 ⟨rfl, A', q1, q2, q3, q4, q5⟩; have hqd := (cells_of_blk q1.blk).2.2.2.2; rw [arm_down_next hI0.out q3, decide_eq_false (by omega), Bool.not_false] at hqd; have hI' := Lib.hid (arm_next hI0.out q2 q3 q4); clear q2 q3 q4)
              | (go_at_call 24; refine (down_any d true _ hqd).mono ?_; rintro e w5 ⟨rfl, rfl⟩))
            have hTn := hT.trans (W := fun _ => False) q5 (fun _ h => h) (fun i hi => .inr (hfr.out i hi))
            have hRn : ArmRel d s o m n w _ (.int .i64 ((j + 1 : Nat) : Int)) := ⟨j + 1, A', by omega, rfl, q1, hI'.out, hTn⟩
            have hRn' := Lib.hid hRn
            clear hRn
            go_roundw
            case rel =>
              have hz : Value.int .i64 ((j : Int) + 1) = .int .i64 ((j + 1 : Nat) : Int) := by go_num
              first
              | (rw [hz]; exact hRn'.out)
              | ((repeat apply Exists.intro); exact ⟨by rw [hz]; exact hRn'.out, rfl⟩)
            case measure => simp [intOf]; omega
        · have hopb : (x.op.tmod 2 == 0) = false := by simpa using hop
          clear hop
          by_cases hj1 : (j : Int) + 1 < m
          · rw [if_pos hj1] at hcode
            have hcode' := Lib.hid hcode
            clear hcode
            go_wp2
            refine wp_region_order (fun w' => w'.cell? ⟨lb, lo + j * 5 + 1, none⟩ = some (.int .i64 x.sec) ∧ w'.cell? ⟨lb, lo + j * 5 + 3, none⟩ = some (.int .u8 x.byt)) [0, 1, 2, 3, 4, 5, 7, 8, 9, 10, 11] [6, 12, 13, 14] mixed (by kernel_rfl) (fun _ _ _ _ _ h => h) ⟨hx1, hx3⟩ ?_
            simp only [pickOps, List.filterMap_cons, List.filterMap_nil, List.getElem?_cons_zero, List.getElem?_cons_succ]
            iterate 11 (refine wpHead_step (v := ?_) rfl (fun w' hw => ?_) ?_; rotate_left; (go_simp; try with_reducible rfl); simp only [Act.put, List.setIfInBounds_toArray, List.set_cons_zero, List.set_cons_succ])
            refine wpHead_nil ?_
            refine wpSeqS_step rfl (fun K hK => ?_)
            go_simp
            refine (pick_any x.sec 3 _ (by omega) (by omega) hb1.1 hb1.2).mono ?_
            rintro e w4 ⟨rfl, rfl⟩
            refine hK.out _ _ ⟨hx1, hx3⟩ ?_
            clear hK K
            refine wpSeqS_step rfl (fun K hK => ?_)
            go_simp
            refine (full_any x.byt _ hb3.1 hb3.2).mono ?_
            rintro e w5 ⟨g, rfl, hr5, hg5, ht5⟩
            have hlb5 : lb < wr.heap.size := by have := hT.size; omega
            have hx15 : w5.cell? ⟨lb, lo + j * 5 + 1, none⟩ = some (.int .i64 x.sec) := cell_turned ht5 hx1 (fun e => e)
            have hx35 : w5.cell? ⟨lb, lo + j * 5 + 3, none⟩ = some (.int .u8 x.byt) := cell_turned ht5 hx3 (fun e => e)
            refine hK.out _ _ ⟨hx15, hx35⟩ ?_
            clear hK K
            have hm3 := Int.emod_nonneg x.sec (show (3 : Int) ≠ 0 by omega)
            have hm4 := Int.emod_lt_of_pos x.sec (show (0 : Int) < 3 by omega)
            have hD5 := hD.fresh ht5.of_drewN
            refine wpSeqS_step rfl (fun K hK => ?_)
            go_simp
            refine (write_any d s o A (x.sec % 3) g 512 (fullB x.byt) _ 0 hD5 hm3 (by rw [hI0.out.1]; exact hm4) hr5 (sec_full _) hcode'.out).mono ?_
            rintro e w6 ⟨rfl, A', q1, q2, q3, q4, q5⟩
            have hqd := (cells_of_blk q1.blk).2.2.2.2; rw [arm_down_next hI0.out q3, decide_eq_true (by omega), Bool.not_true] at hqd; have hI' := Lib.hid (arm_next hI0.out q2 q3 q4); clear q2 q3 q4
            have hne : ¬ dskW d s o lb := fun e => by have := hfr.out lb e; omega
            have hx16 : w6.cell? ⟨lb, lo + j * 5 + 1, none⟩ = some (.int .i64 x.sec) := cell_turned q5 hx15 hne
            have hx36 : w6.cell? ⟨lb, lo + j * 5 + 3, none⟩ = some (.int .u8 x.byt) := cell_turned q5 hx35 hne
            refine hK.out _ _ ⟨hx16, hx36⟩ ?_
            clear hK K
            refine wpSeqS_step rfl (fun K hK => ?_)
            go_simp
            refine hK.out _ _ ⟨hx16, hx36⟩ ?_
            clear hK K
            refine wpSeqS_nil ?_
            have hTn := (hT.trans (W := fun _ => False) ht5.of_drewN (fun _ h => h) (fun _ h => .inl h)).trans (W := fun _ => False) q5 (fun _ h => h) (fun i hi => .inr (hfr.out i hi))
            clear hx15 hx35 hx16 hx36 hx0 hx1 hx3 hD5 hr5 ht5
            go_wp2_with (go_at_call 24; refine (down_any d false _ hqd).mono ?_; rintro e w5 ⟨rfl, rfl⟩)
            have hRn : ArmRel d s o m n w _ (.int .i64 ((j + 1 : Nat) : Int)) := ⟨j + 1, A', by omega, rfl, q1, hI'.out, hTn⟩
            have hRn' := Lib.hid hRn
            clear hRn
            go_roundw
            case rel =>
              have hz : Value.int .i64 ((j : Int) + 1) = .int .i64 ((j + 1 : Nat) : Int) := by go_num
              first
              | (rw [hz]; exact hRn'.out)
              | ((repeat apply Exists.intro); exact ⟨by rw [hz]; exact hRn'.out, rfl⟩)
            case measure => simp [intOf]; omega
          · rw [if_neg hj1] at hcode
            have hcode' := Lib.hid hcode
            clear hcode
            go_wp2
            refine wp_region_order (fun w' => w'.cell? ⟨lb, lo + j * 5 + 1, none⟩ = some (.int .i64 x.sec) ∧ w'.cell? ⟨lb, lo + j * 5 + 3, none⟩ = some (.int .u8 x.byt)) [0, 1, 2, 3, 4, 5, 7, 8, 9, 10, 11] [6, 12, 13, 14] mixed (by kernel_rfl) (fun _ _ _ _ _ h => h) ⟨hx1, hx3⟩ ?_
            simp only [pickOps, List.filterMap_cons, List.filterMap_nil, List.getElem?_cons_zero, List.getElem?_cons_succ]
            iterate 11 (refine wpHead_step (v := ?_) rfl (fun w' hw => ?_) ?_; rotate_left; (go_simp; try with_reducible rfl); simp only [Act.put, List.setIfInBounds_toArray, List.set_cons_zero, List.set_cons_succ])
            refine wpHead_nil ?_
            refine wpSeqS_step rfl (fun K hK => ?_)
            go_simp
            refine (pick_any x.sec 3 _ (by omega) (by omega) hb1.1 hb1.2).mono ?_
            rintro e w4 ⟨rfl, rfl⟩
            refine hK.out _ _ ⟨hx1, hx3⟩ ?_
            clear hK K
            refine wpSeqS_step rfl (fun K hK => ?_)
            go_simp
            refine (full_any x.byt _ hb3.1 hb3.2).mono ?_
            rintro e w5 ⟨g, rfl, hr5, hg5, ht5⟩
            have hlb5 : lb < wr.heap.size := by have := hT.size; omega
            have hx15 : w5.cell? ⟨lb, lo + j * 5 + 1, none⟩ = some (.int .i64 x.sec) := cell_turned ht5 hx1 (fun e => e)
            have hx35 : w5.cell? ⟨lb, lo + j * 5 + 3, none⟩ = some (.int .u8 x.byt) := cell_turned ht5 hx3 (fun e => e)
            refine hK.out _ _ ⟨hx15, hx35⟩ ?_
            clear hK K
            have hm3 := Int.emod_nonneg x.sec (show (3 : Int) ≠ 0 by omega)
            have hm4 := Int.emod_lt_of_pos x.sec (show (0 : Int) < 3 by omega)
            have hD5 := hD.fresh ht5.of_drewN
            refine wpSeqS_step rfl (fun K hK => ?_)
            go_simp
            refine (write_any d s o A (x.sec % 3) g 512 (fullB x.byt) _ 8 hD5 hm3 (by rw [hI0.out.1]; exact hm4) hr5 (sec_full _) hcode'.out).mono ?_
            rintro e w6 ⟨rfl, A', q1, q2, q3, q4, q5⟩
            have hqd := (cells_of_blk q1.blk).2.2.2.2; rw [arm_down_next hI0.out q3, decide_eq_false (by omega), Bool.not_false] at hqd; have hI' := Lib.hid (arm_next hI0.out q2 q3 q4); clear q2 q3 q4
            have hne : ¬ dskW d s o lb := fun e => by have := hfr.out lb e; omega
            have hx16 : w6.cell? ⟨lb, lo + j * 5 + 1, none⟩ = some (.int .i64 x.sec) := cell_turned q5 hx15 hne
            have hx36 : w6.cell? ⟨lb, lo + j * 5 + 3, none⟩ = some (.int .u8 x.byt) := cell_turned q5 hx35 hne
            refine hK.out _ _ ⟨hx16, hx36⟩ ?_
            clear hK K
            refine wpSeqS_step rfl (fun K hK => ?_)
            go_simp
            refine hK.out _ _ ⟨hx16, hx36⟩ ?_
            clear hK K
            refine wpSeqS_nil ?_
            have hTn := (hT.trans (W := fun _ => False) ht5.of_drewN (fun _ h => h) (fun _ h => .inl h)).trans (W := fun _ => False) q5 (fun _ h => h) (fun i hi => .inr (hfr.out i hi))
            clear hx15 hx35 hx16 hx36 hx0 hx1 hx3 hD5 hr5 ht5
            go_wp2_with (go_at_call 24; refine (down_any d true _ hqd).mono ?_; rintro e w5 ⟨rfl, rfl⟩)
            have hRn : ArmRel d s o m n w _ (.int .i64 ((j + 1 : Nat) : Int)) := ⟨j + 1, A', by omega, rfl, q1, hI'.out, hTn⟩
            have hRn' := Lib.hid hRn
            clear hRn
            go_roundw
            case rel =>
              have hz : Value.int .i64 ((j : Int) + 1) = .int .i64 ((j + 1 : Nat) : Int) := by go_num
              first
              | (rw [hz]; exact hRn'.out)
              | ((repeat apply Exists.intro); exact ⟨by rw [hz]; exact hRn'.out, rfl⟩)
            case measure => simp [intOf]; omega
      · have hge : (n : Int) ≤ (j : Int) := by omega
        go_wp2_with fail
        refine (wake_any d s o A none 0 0 [] _ hD ⟨rfl, by omega, by simp, fun h => absurd h (by omega)⟩).mono ?_
        rintro e w4 ⟨rfl, hD4, ht4⟩
        have hT4 := hT.trans (W := fun _ => False) ht4 (fun _ h => h) (fun i hi => .inr (hfr.out i hi))
        have hn4 : (A.wake []).n = 3 := hI0.out.1
        clear hD ht4 hT
        generalize hA4 : A.wake [] = A4 at *
        have hA4' : A4.down = false ∧ A4.armed = 0 := by rw [← hA4]; exact ⟨rfl, rfl⟩
        have hA4h := Lib.hid (And.intro hA4' hn4)
        clear hA4 hA4' hn4
        go_wp2_with fail
        refine (down_any d false _ (by have := (cells_of_blk hD4.blk).2.2.2.2; rw [hA4h.out.1.1] at this; exact this)).mono ?_
        rintro e w5 ⟨rfl, rfl⟩
        go_wp2_with fail
        refine (full_any 1 _ (by omega) (by omega)).mono ?_
        rintro e w6 ⟨g, rfl, hr6, hg6, ht6⟩
        have hD6 := hD4.fresh ht6
        have hT6 := hT4.trans (W := fun _ => False) ht6 (fun _ h => h) (fun _ h => .inl h)
        clear hD4 hT4 ht6
        go_wp2_with fail
        refine (write_any d s o A4 0 g 512 (fullB 1) _ 0 hD6 (by omega) (by rw [hA4h.out.2]; omega) hr6 (sec_full _) (by unfold stCode; rw [hA4h.out.1.1, hA4h.out.1.2]; rfl)).mono ?_
        rintro e w7 ⟨rfl, A7, q1, q2, q3, q4, q5⟩
        have hT7 := hT6.trans (W := fun _ => False) q5 (fun _ h => h) (fun i hi => .inr (hfr.out i hi))
        have hA7 := Lib.hid (show stCode A7 = 0 by unfold stCode; rw [q3, q4 hA4h.out.1.1, hA4h.out.1.1, hA4h.out.1.2]; rfl)
        clear q2 q3 q4 q5 hD6 hT6 hr6
        go_wp2_with fail
        refine (sync_any d s o A7 _ 0 q1 hA7.out).mono ?_
        rintro e w8 ⟨rfl, A8, p1, p2, p3, p4, p5⟩
        have hT8 := hT7.trans (W := fun _ => False) p5 (fun _ h => h) (fun i hi => .inr (hfr.out i hi))
        go_wp2_with fail
        go_ret
        exact ⟨rfl, hT8⟩
  · go_enter Try.func6, Try.ntmps6
    go_wp2_with fail
    refine (awake_any _).mono ?_
    rintro e w1 ⟨rfl, ht1⟩
    go_wp2_with fail
    refine (pick_any n0 80 _ (by omega) (by omega) hn0.1 hn0.2).mono ?_
    rintro e w2 ⟨rfl, rfl⟩
    go_wp2_with fail
    refine (new_yes 3 _ (by omega) (by omega)).mono ?_
    rintro e w2 ⟨d, s, o, rfl, hD2, ht2, hfr, _⟩
    have hT2 := ht1.trans (W := fun _ => False) ht2 (fun _ h => h) (fun _ h => .inl h)
    have hfr' : ∀ k, dskW d s o k → w.heap.size ≤ k := fun k hk => Nat.le_trans ht1.size (hfr k hk)
    have hfr := Lib.hid hfr'
    clear hfr' ht1 ht2
    go_wp2_with fail
    generalize hm : 1 + n0 % 80 = m
    have hm1 : 1 ≤ m := by omega
    have hm2 : m ≤ 80 := by omega
    clear hm hmod hmod2
    refine (arm_up d s o 3 0 m _ hD2.blk).mono ?_
    rintro e w3 ⟨rfl, hB3, ht3⟩
    go_wp2_with fail
    have hLn := Lib.hid (hL0.out.cut (m := 80) (by omega))
    obtain ⟨A0, hA0⟩ : ∃ A0 : DA, A0 = (⟨3, fun _ => noughts, fun _ => noughts, fun _ => false, m, false⟩ : DA) := ⟨_, rfl⟩
    have hD3 : IsDisk w3 d s o A0 := by
      rw [hA0]
      obtain ⟨vs, vo, m1, m2, r⟩ := hD2.maps
      exact ⟨by have := hB3; rw [nonneg, if_pos (by omega)] at this; exact this, hD2.ne, by show (1 : Int) ≤ 3; omega, by show (3 : Int) ≤ 8192; omega, by show 0 ≤ m; omega, by show m ≤ 9223372036854775807; omega, vs, vo, m1.turned ht3 (fun e => m1.ne_blk hD2.blk e.symm), m2.turned ht3 (fun e => m2.ne_blk hD2.blk e.symm), r⟩
    have hI3 : ArmInv A0 m 0 := by rw [hA0]; exact ⟨rfl, fun _ => ⟨rfl, by simp⟩, fun h => by simp at h; omega⟩
    have hT3 := hT2.trans (W := fun _ => False) ht3 (fun _ h => h) (fun i hi => .inr (hfr.out i (.inl hi)))
    have hH3 := Lib.hid (And.intro hD3 hI3)
    clear hD2 hB3 ht3 hT2 hD3 hI3 hA0
    go_loopw [6] (fun i wr => ArmRel d s o m 80 w wr i) (fun i _ => 80 - (intOf i).toNat)
    case atStart => exact ⟨0, A0, Nat.zero_le _, rfl, hH3.out.1, hH3.out.2, hT3⟩
    case round =>
      obtain ⟨j, A, hj, rfl, hD, hI, hT⟩ := hrel
      have hI0 := Lib.hid hI
      clear hI hH3
      by_cases hjn : j < 80
      · obtain ⟨lb, lo, rfl, hlb, hX⟩ := hLn.out.at_ (by omega)
        have hx := (hX j hjn).below (hT.below (fun _ e => e.elim)) hlb
        have hx0 := hx.c0
        have hx1 := hx.c1
        have hx3 := hx.c3
        have hb1 := hx.b1
        have hb3 := hx.b3
        generalize X j = x at *
        clear hX hx
        have hjc : (j : Int) < (80 : Int) := by omega
        have hcode := arm_code hI0.out
        by_cases hop : x.op.tmod 2 = 0
        · have hopb : (x.op.tmod 2 == 0) = true := by simpa using hop
          clear hop
          by_cases hj1 : (j : Int) + 1 < m
          · rw [if_pos hj1] at hcode
            have hcode' := Lib.hid hcode
            clear hcode
            go_wp2_with (first
              | (go_at_call 17; refine (sync_any d s o A _ 0 hD hcode'.out).mono ?_; rintro e w4 ⟨rfl, A', q1, q2, q3, q4, q5⟩; have hqd := (cells_of_blk q1.blk).2.2.2.2; rw [arm_down_next hI0.out q3, decide_eq_true (by omega), Bool.not_true] at hqd; have hI' := Lib.hid (arm_next hI0.out q2 q3 q4); clear q2 q3 q4)
              | (go_at_call 24; refine (down_any d false _ hqd).mono ?_; rintro e w5 ⟨rfl, rfl⟩))
            have hTn := hT.trans (W := fun _ => False) q5 (fun _ h => h) (fun i hi => .inr (hfr.out i hi))
            have hRn : ArmRel d s o m 80 w _ (.int .i64 ((j + 1 : Nat) : Int)) := ⟨j + 1, A', by omega, rfl, q1, hI'.out, hTn⟩
            have hRn' := Lib.hid hRn
            clear hRn
            go_roundw
            case rel =>
              have hz : Value.int .i64 ((j : Int) + 1) = .int .i64 ((j + 1 : Nat) : Int) := by go_num
              first
              | (rw [hz]; exact hRn'.out)
              | ((repeat apply Exists.intro); exact ⟨by rw [hz]; exact hRn'.out, rfl⟩)
            case measure => simp [intOf]; omega
          · rw [if_neg hj1] at hcode
            have hcode' := Lib.hid hcode
            clear hcode
            go_wp2_with (first
              | (go_at_call 17; refine (sync_any d s o A _ 8 hD hcode'.out).mono ?_; rintro e w4 ⟨rfl, A', q1, q2, q3, q4, q5⟩; have hqd := (cells_of_blk q1.blk).2.2.2.2; rw [arm_down_next hI0.out q3, decide_eq_false (by omega), Bool.not_false] at hqd; have hI' := Lib.hid (arm_next hI0.out q2 q3 q4); clear q2 q3 q4)
              | (go_at_call 24; refine (down_any d true _ hqd).mono ?_; rintro e w5 ⟨rfl, rfl⟩))
            have hTn := hT.trans (W := fun _ => False) q5 (fun _ h => h) (fun i hi => .inr (hfr.out i hi))
            have hRn : ArmRel d s o m 80 w _ (.int .i64 ((j + 1 : Nat) : Int)) := ⟨j + 1, A', by omega, rfl, q1, hI'.out, hTn⟩
            have hRn' := Lib.hid hRn
            clear hRn
            go_roundw
            case rel =>
              have hz : Value.int .i64 ((j : Int) + 1) = .int .i64 ((j + 1 : Nat) : Int) := by go_num
              first
              | (rw [hz]; exact hRn'.out)
              | ((repeat apply Exists.intro); exact ⟨by rw [hz]; exact hRn'.out, rfl⟩)
            case measure => simp [intOf]; omega
        · have hopb : (x.op.tmod 2 == 0) = false := by simpa using hop
          clear hop
          by_cases hj1 : (j : Int) + 1 < m
          · rw [if_pos hj1] at hcode
            have hcode' := Lib.hid hcode
            clear hcode
            go_wp2
            refine wp_region_order (fun w' => w'.cell? ⟨lb, lo + j * 5 + 1, none⟩ = some (.int .i64 x.sec) ∧ w'.cell? ⟨lb, lo + j * 5 + 3, none⟩ = some (.int .u8 x.byt)) [0, 1, 2, 3, 4, 5, 7, 8, 9, 10, 11] [6, 12, 13, 14] mixed (by kernel_rfl) (fun _ _ _ _ _ h => h) ⟨hx1, hx3⟩ ?_
            simp only [pickOps, List.filterMap_cons, List.filterMap_nil, List.getElem?_cons_zero, List.getElem?_cons_succ]
            iterate 11 (refine wpHead_step (v := ?_) rfl (fun w' hw => ?_) ?_; rotate_left; (go_simp; try with_reducible rfl); simp only [Act.put, List.setIfInBounds_toArray, List.set_cons_zero, List.set_cons_succ])
            refine wpHead_nil ?_
            refine wpSeqS_step rfl (fun K hK => ?_)
            go_simp
            refine (pick_any x.sec 3 _ (by omega) (by omega) hb1.1 hb1.2).mono ?_
            rintro e w4 ⟨rfl, rfl⟩
            refine hK.out _ _ ⟨hx1, hx3⟩ ?_
            clear hK K
            refine wpSeqS_step rfl (fun K hK => ?_)
            go_simp
            refine (full_any x.byt _ hb3.1 hb3.2).mono ?_
            rintro e w5 ⟨g, rfl, hr5, hg5, ht5⟩
            have hlb5 : lb < wr.heap.size := by have := hT.size; omega
            have hx15 : w5.cell? ⟨lb, lo + j * 5 + 1, none⟩ = some (.int .i64 x.sec) := cell_turned ht5 hx1 (fun e => e)
            have hx35 : w5.cell? ⟨lb, lo + j * 5 + 3, none⟩ = some (.int .u8 x.byt) := cell_turned ht5 hx3 (fun e => e)
            refine hK.out _ _ ⟨hx15, hx35⟩ ?_
            clear hK K
            have hm3 := Int.emod_nonneg x.sec (show (3 : Int) ≠ 0 by omega)
            have hm4 := Int.emod_lt_of_pos x.sec (show (0 : Int) < 3 by omega)
            have hD5 := hD.fresh ht5.of_drewN
            refine wpSeqS_step rfl (fun K hK => ?_)
            go_simp
            refine (write_any d s o A (x.sec % 3) g 512 (fullB x.byt) _ 0 hD5 hm3 (by rw [hI0.out.1]; exact hm4) hr5 (sec_full _) hcode'.out).mono ?_
            rintro e w6 ⟨rfl, A', q1, q2, q3, q4, q5⟩
            have hqd := (cells_of_blk q1.blk).2.2.2.2; rw [arm_down_next hI0.out q3, decide_eq_true (by omega), Bool.not_true] at hqd; have hI' := Lib.hid (arm_next hI0.out q2 q3 q4); clear q2 q3 q4
            have hne : ¬ dskW d s o lb := fun e => by have := hfr.out lb e; omega
            have hx16 : w6.cell? ⟨lb, lo + j * 5 + 1, none⟩ = some (.int .i64 x.sec) := cell_turned q5 hx15 hne
            have hx36 : w6.cell? ⟨lb, lo + j * 5 + 3, none⟩ = some (.int .u8 x.byt) := cell_turned q5 hx35 hne
            refine hK.out _ _ ⟨hx16, hx36⟩ ?_
            clear hK K
            refine wpSeqS_step rfl (fun K hK => ?_)
            go_simp
            refine hK.out _ _ ⟨hx16, hx36⟩ ?_
            clear hK K
            refine wpSeqS_nil ?_
            have hTn := (hT.trans (W := fun _ => False) ht5.of_drewN (fun _ h => h) (fun _ h => .inl h)).trans (W := fun _ => False) q5 (fun _ h => h) (fun i hi => .inr (hfr.out i hi))
            clear hx15 hx35 hx16 hx36 hx0 hx1 hx3 hD5 hr5 ht5
            go_wp2_with (go_at_call 24; refine (down_any d false _ hqd).mono ?_; rintro e w5 ⟨rfl, rfl⟩)
            have hRn : ArmRel d s o m 80 w _ (.int .i64 ((j + 1 : Nat) : Int)) := ⟨j + 1, A', by omega, rfl, q1, hI'.out, hTn⟩
            have hRn' := Lib.hid hRn
            clear hRn
            go_roundw
            case rel =>
              have hz : Value.int .i64 ((j : Int) + 1) = .int .i64 ((j + 1 : Nat) : Int) := by go_num
              first
              | (rw [hz]; exact hRn'.out)
              | ((repeat apply Exists.intro); exact ⟨by rw [hz]; exact hRn'.out, rfl⟩)
            case measure => simp [intOf]; omega
          · rw [if_neg hj1] at hcode
            have hcode' := Lib.hid hcode
            clear hcode
            go_wp2
            refine wp_region_order (fun w' => w'.cell? ⟨lb, lo + j * 5 + 1, none⟩ = some (.int .i64 x.sec) ∧ w'.cell? ⟨lb, lo + j * 5 + 3, none⟩ = some (.int .u8 x.byt)) [0, 1, 2, 3, 4, 5, 7, 8, 9, 10, 11] [6, 12, 13, 14] mixed (by kernel_rfl) (fun _ _ _ _ _ h => h) ⟨hx1, hx3⟩ ?_
            simp only [pickOps, List.filterMap_cons, List.filterMap_nil, List.getElem?_cons_zero, List.getElem?_cons_succ]
            iterate 11 (refine wpHead_step (v := ?_) rfl (fun w' hw => ?_) ?_; rotate_left; (go_simp; try with_reducible rfl); simp only [Act.put, List.setIfInBounds_toArray, List.set_cons_zero, List.set_cons_succ])
            refine wpHead_nil ?_
            refine wpSeqS_step rfl (fun K hK => ?_)
            go_simp
            refine (pick_any x.sec 3 _ (by omega) (by omega) hb1.1 hb1.2).mono ?_
            rintro e w4 ⟨rfl, rfl⟩
            refine hK.out _ _ ⟨hx1, hx3⟩ ?_
            clear hK K
            refine wpSeqS_step rfl (fun K hK => ?_)
            go_simp
            refine (full_any x.byt _ hb3.1 hb3.2).mono ?_
            rintro e w5 ⟨g, rfl, hr5, hg5, ht5⟩
            have hlb5 : lb < wr.heap.size := by have := hT.size; omega
            have hx15 : w5.cell? ⟨lb, lo + j * 5 + 1, none⟩ = some (.int .i64 x.sec) := cell_turned ht5 hx1 (fun e => e)
            have hx35 : w5.cell? ⟨lb, lo + j * 5 + 3, none⟩ = some (.int .u8 x.byt) := cell_turned ht5 hx3 (fun e => e)
            refine hK.out _ _ ⟨hx15, hx35⟩ ?_
            clear hK K
            have hm3 := Int.emod_nonneg x.sec (show (3 : Int) ≠ 0 by omega)
            have hm4 := Int.emod_lt_of_pos x.sec (show (0 : Int) < 3 by omega)
            have hD5 := hD.fresh ht5.of_drewN
            refine wpSeqS_step rfl (fun K hK => ?_)
            go_simp
            refine (write_any d s o A (x.sec % 3) g 512 (fullB x.byt) _ 8 hD5 hm3 (by rw [hI0.out.1]; exact hm4) hr5 (sec_full _) hcode'.out).mono ?_
            rintro e w6 ⟨rfl, A', q1, q2, q3, q4, q5⟩
            have hqd := (cells_of_blk q1.blk).2.2.2.2; rw [arm_down_next hI0.out q3, decide_eq_false (by omega), Bool.not_false] at hqd; have hI' := Lib.hid (arm_next hI0.out q2 q3 q4); clear q2 q3 q4
            have hne : ¬ dskW d s o lb := fun e => by have := hfr.out lb e; omega
            have hx16 : w6.cell? ⟨lb, lo + j * 5 + 1, none⟩ = some (.int .i64 x.sec) := cell_turned q5 hx15 hne
            have hx36 : w6.cell? ⟨lb, lo + j * 5 + 3, none⟩ = some (.int .u8 x.byt) := cell_turned q5 hx35 hne
            refine hK.out _ _ ⟨hx16, hx36⟩ ?_
            clear hK K
            refine wpSeqS_step rfl (fun K hK => ?_)
            go_simp
            refine hK.out _ _ ⟨hx16, hx36⟩ ?_
            clear hK K
            refine wpSeqS_nil ?_
            have hTn := (hT.trans (W := fun _ => False) ht5.of_drewN (fun _ h => h) (fun _ h => .inl h)).trans (W := fun _ => False) q5 (fun _ h => h) (fun i hi => .inr (hfr.out i hi))
            clear hx15 hx35 hx16 hx36 hx0 hx1 hx3 hD5 hr5 ht5
            go_wp2_with (go_at_call 24; refine (down_any d true _ hqd).mono ?_; rintro e w5 ⟨rfl, rfl⟩)
            have hRn : ArmRel d s o m 80 w _ (.int .i64 ((j + 1 : Nat) : Int)) := ⟨j + 1, A', by omega, rfl, q1, hI'.out, hTn⟩
            have hRn' := Lib.hid hRn
            clear hRn
            go_roundw
            case rel =>
              have hz : Value.int .i64 ((j : Int) + 1) = .int .i64 ((j + 1 : Nat) : Int) := by go_num
              first
              | (rw [hz]; exact hRn'.out)
              | ((repeat apply Exists.intro); exact ⟨by rw [hz]; exact hRn'.out, rfl⟩)
            case measure => simp [intOf]; omega
      · have hge : (80 : Int) ≤ (j : Int) := by omega
        go_wp2_with fail
        refine (wake_any d s o A none 0 0 [] _ hD ⟨rfl, by omega, by simp, fun h => absurd h (by omega)⟩).mono ?_
        rintro e w4 ⟨rfl, hD4, ht4⟩
        have hT4 := hT.trans (W := fun _ => False) ht4 (fun _ h => h) (fun i hi => .inr (hfr.out i hi))
        have hn4 : (A.wake []).n = 3 := hI0.out.1
        clear hD ht4 hT
        generalize hA4 : A.wake [] = A4 at *
        have hA4' : A4.down = false ∧ A4.armed = 0 := by rw [← hA4]; exact ⟨rfl, rfl⟩
        have hA4h := Lib.hid (And.intro hA4' hn4)
        clear hA4 hA4' hn4
        go_wp2_with fail
        refine (down_any d false _ (by have := (cells_of_blk hD4.blk).2.2.2.2; rw [hA4h.out.1.1] at this; exact this)).mono ?_
        rintro e w5 ⟨rfl, rfl⟩
        go_wp2_with fail
        refine (full_any 1 _ (by omega) (by omega)).mono ?_
        rintro e w6 ⟨g, rfl, hr6, hg6, ht6⟩
        have hD6 := hD4.fresh ht6
        have hT6 := hT4.trans (W := fun _ => False) ht6 (fun _ h => h) (fun _ h => .inl h)
        clear hD4 hT4 ht6
        go_wp2_with fail
        refine (write_any d s o A4 0 g 512 (fullB 1) _ 0 hD6 (by omega) (by rw [hA4h.out.2]; omega) hr6 (sec_full _) (by unfold stCode; rw [hA4h.out.1.1, hA4h.out.1.2]; rfl)).mono ?_
        rintro e w7 ⟨rfl, A7, q1, q2, q3, q4, q5⟩
        have hT7 := hT6.trans (W := fun _ => False) q5 (fun _ h => h) (fun i hi => .inr (hfr.out i hi))
        have hA7 := Lib.hid (show stCode A7 = 0 by unfold stCode; rw [q3, q4 hA4h.out.1.1, hA4h.out.1.1, hA4h.out.1.2]; rfl)
        clear q2 q3 q4 q5 hD6 hT6 hr6
        go_wp2_with fail
        refine (sync_any d s o A7 _ 0 q1 hA7.out).mono ?_
        rintro e w8 ⟨rfl, A8, p1, p2, p3, p4, p5⟩
        have hT8 := hT7.trans (W := fun _ => False) p5 (fun _ h => h) (fun i hi => .inr (hfr.out i hi))
        go_wp2_with fail
        go_ret
        exact ⟨rfl, hT8⟩
end Go.Proofs.Ytobjoafhhchjgaa
