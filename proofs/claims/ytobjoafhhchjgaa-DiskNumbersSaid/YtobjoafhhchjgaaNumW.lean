/-
  DiskNumbers' walk.
-/
import Derived.Test.YtobjoafhhchjgaaFates
namespace Go.Proofs.Ytobjoafhhchjgaa
open Go.RowKit Go.Maps

theorem arm_ok (d s o : Nat) (A : DA) (n : Int) (w : World) (h : IsDisk w d s o A) (hdn : A.down = false) (hn : 0 ≤ n ∧ n ≤ 9223372036854775807) :
    Calls Try.prog 29 #[.pointer (some ⟨d, 0, none⟩), .int .i64 n] w (fun e w' => e = .returned (.tuple #[]) ∧ IsDisk w' d s o { A with armed := n } ∧ Turned (dskW d s o) w w') := by
  have hb := h.blk
  rw [hdn] at hb
  refine (arm_up d s o A.n A.armed n w hb).mono ?_
  rintro e w' ⟨rfl, h1, h2⟩
  rw [nonneg, if_pos hn.1] at h1
  obtain ⟨vs, vo, m1, m2, r⟩ := h.maps
  refine ⟨rfl, ⟨by rw [hdn]; exact h1, h.ne, h.n1, h.n2, hn.1, hn.2, vs, vo, m1.turned h2 (fun e => m1.ne_blk hb e.symm), m2.turned h2 (fun e => m2.ne_blk hb e.symm), r⟩, h2.mono (fun i hi => .inl (.inl hi))⟩
theorem wake_to (d s o : Nat) (A : DA) (F : Option Addr) (n c : Nat) (fs : List Int) (w : World) (A' : DA) (h : IsDisk w d s o A) (hF : IntsR w d F n fs) (hA : A.wake fs = A') :
    Calls Try.prog 20 #[.pointer (some ⟨d, 0, none⟩), .slice F n c] w (WakePost d s o A' w) := by
  subst hA
  exact wake_any d s o A F n c fs w h hF
theorem ints3 {w : World} {d g : Nat} (h : Blk w g 39 #[.int .i64 3, .int .i64 0, .int .i64 (-1)]) (hd : d < g) : IntsR w d (some ⟨g, 0, none⟩) 3 [3, 0, -1] :=
  ⟨rfl, by omega, by intro f hf; simp at hf; rcases hf with rfl | rfl | rfl <;> rfl, fun _ => ⟨_, _, rfl, by omega, fun j hj => by
    match j, hj with
    | 0, _ => exact h.cell 0
    | 1, _ => exact h.cell 1
    | 2, _ => exact h.cell 2⟩⟩

def nb1 : DA := (DA.new 8192).write 8191 (fullB 9)
def nd1 : DA := { DA.new 1 with armed := 2 }
def nd2 : DA := nd1.write 0 (fullB 1)
def nd3 : DA := nd2.sync
def nd4 : DA := nd3.wake []
def nd5 : DA := { nd4 with armed := 1 }
def nd6 : DA := nd5.write 0 (fullB 1)
def nd7 : DA := nd6.wake [3, 0, -1]
def nd8 : DA := DA.sync { ({ nd7 with armed := 1 } : DA) with armed := 0 }

set_option maxRecDepth 100000 in
set_option maxHeartbeats 4000000 in
theorem diskNumbers_any (w : World) : Calls Try.prog 5 #[] w (OkNew w) := by
  -- THE REST IS PRINTED BY wip/gen_num.py
  obtain ⟨i0, hi0, hz0, hz1, hz2⟩ := info_parts u8info
  have hi0 := hi0; have HI := Lib.hid (And.intro hi0 (And.intro hz0 (And.intro hz1 hz2))); clear hi0 hz0 hz1 hz2
  go_enter Try.func5, Try.ntmps5
  have hT0 := Turned.refl (fun _ => False) w
  go_wp2_with fail
  refine (new_no (-1) _ (by omega)).mono ?_
  rintro e w1 ⟨rfl, rfl⟩
  go_wp2_with fail
  refine (new_no 8193 _ (by omega)).mono ?_
  rintro e w2 ⟨rfl, rfl⟩
  go_wp2_with fail
  refine (new_yes 8192 _ (by omega) (by omega)).mono ?_
  rintro e w3 ⟨db, sb, ob, rfl, hDb_3, ht3, hfr, _⟩
  have hfrb := Lib.hid (fun i (hi : dskW db sb ob i) => Nat.le_trans hT0.size (hfr i hi))
  clear hfr
  have hT3 := hT0.trans (W := fun _ => False) ht3 (fun _ h => h) (fun _ h => .inl h)
  clear hT0 ht3
  obtain ⟨c0, c1, c2, c3, c4⟩ := cells_of_blk hDb_3.blk
  go_wp2_with fail
  refine (sectors_any db 8192 _ c0).mono ?_
  rintro e w4 ⟨rfl, rfl⟩
  clear c0 c1 c2 c3 c4
  go_wp2_with fail
  refine (full_any 9 _ (by omega) (by omega)).mono ?_
  rintro e w5 ⟨g5, rfl, hr_5, hg5, ht5⟩
  have hDb_5 := hDb_3.fresh ht5
  clear hDb_3
  have hT5 := hT3.trans (W := fun _ => False) ht5 (fun _ h => h) (fun _ h => .inl h)
  clear hT3 ht5
  clear hg5
  go_wp2_with fail
  refine (write_to db sb ob _ 8191 g5 512 (fullB 9) _ 0 nb1 hDb_5 rfl (by omega) (by show (8191 : Int) < _; decide) hr_5 (sec_full 9) rfl rfl).mono ?_
  rintro e w6 ⟨rfl, hDb_6, ht6⟩
  clear hr_5
  have hT6 := hT5.trans (W := fun _ => False) ht6 (fun _ h => h) (fun i hi => .inr (hfrb.out i hi))
  clear hT5 ht6
  clear hDb_5
  go_wp2_with fail
  refine (full_any 9 _ (by omega) (by omega)).mono ?_
  rintro e w7 ⟨g7, rfl, hr_7, hg7, ht7⟩
  have hDb_7 := hDb_6.fresh ht7
  clear hDb_6
  have hT7 := hT6.trans (W := fun _ => False) ht7 (fun _ h => h) (fun _ h => .inl h)
  clear hT6 ht7
  clear hg7
  obtain ⟨c0, c1, c2, c3, c4⟩ := cells_of_blk hDb_7.blk
  go_wp2_with fail
  refine (write_err _ 8192 6 _ (may_none db 8192 8192 _ c0 (by omega) c4 (by omega)) rfl _).mono ?_
  rintro e w8 ⟨rfl, rfl⟩
  clear c0 c1 c2 c3 c4
  clear hr_7
  go_wp2_with fail
  refine (full_any 9 _ (by omega) (by omega)).mono ?_
  rintro e w9 ⟨g9, rfl, hr_9, hg9, ht9⟩
  have hDb_9 := hDb_7.fresh ht9
  clear hDb_7
  have hT9 := hT7.trans (W := fun _ => False) ht9 (fun _ h => h) (fun _ h => .inl h)
  clear hT7 ht9
  clear hg9
  obtain ⟨c0, c1, c2, c3, c4⟩ := cells_of_blk hDb_9.blk
  go_wp2_with fail
  refine (write_err _ (-1) 6 _ (may_none db 8192 (-1) _ c0 (by omega) c4 (by omega)) rfl _).mono ?_
  rintro e w10 ⟨rfl, rfl⟩
  clear c0 c1 c2 c3 c4
  clear hr_9
  obtain ⟨w11, hmk, hown, hgr⟩ := run_make_full (P := Try.prog) w9 0 35 5 i0 (.int .u8 0) 1 Try.underlying35 HI.out.1 HI.out.2.1 HI.out.2.2.1 .i64 .i64 513 (by rw [HI.out.2.2.2]; omega) (by unfold maxLen; omega) (Nat.zero_le _)
  have hmk11 : (Instr.makeSlice 35 (.int .i64 513) (.int .i64 513)).run Try.prog w9 = .ok (.slice (some ⟨w9.heap.size, 0, none⟩) 513 513) w11 := hmk
  rw [made_u8] at hown
  have hm_11 := RowB.of_own hown
  have ht11 := (Turned.refl (fun _ => False) w9).grown hgr (by simp)
  clear hmk hown hgr
  have hDb_11 := hDb_9.fresh ht11
  clear hDb_9
  have hT11 := hT9.trans (W := fun _ => False) ht11 (fun _ h => h) (fun _ h => .inl h)
  clear hT9 ht11
  obtain ⟨c0, c1, c2, c3, c4⟩ := cells_of_blk hDb_11.blk
  go_wp2_with fail
  refine (write_arg _ 0 _ (may_ok db 8192 0 _ c0 (by omega) c4 (by omega) (by omega)) _ 513 513 rfl).mono ?_
  rintro e w12 ⟨rfl, rfl⟩
  clear c0 c1 c2 c3 c4
  clear hm_11
  clear hDb_11
  go_wp2_with fail
  refine (new_yes 1 _ (by omega) (by omega)).mono ?_
  rintro e w13 ⟨dd, sd, od, rfl, hDd_13, ht13, hfr, _⟩
  have hfrd := Lib.hid (fun i (hi : dskW dd sd od i) => Nat.le_trans hT11.size (hfr i hi))
  clear hfr
  have hT13 := hT11.trans (W := fun _ => False) ht13 (fun _ h => h) (fun _ h => .inl h)
  clear hT11 ht13
  go_wp2_with fail
  refine (arm_ok dd sd od _ 2 _ hDd_13 rfl (by omega)).mono ?_
  rintro e w14 ⟨rfl, hDd_14, ht14⟩
  have hT14 := hT13.trans (W := fun _ => False) ht14 (fun _ h => h) (fun i hi => .inr (hfrd.out i hi))
  clear hT13 ht14
  clear hDd_13
  go_wp2_with fail
  refine (full_any 1 _ (by omega) (by omega)).mono ?_
  rintro e w15 ⟨g15, rfl, hr_15, hg15, ht15⟩
  have hDd_15 := hDd_14.fresh ht15
  clear hDd_14
  have hT15 := hT14.trans (W := fun _ => False) ht15 (fun _ h => h) (fun _ h => .inl h)
  clear hT14 ht15
  clear hg15
  go_wp2_with fail
  refine (write_to dd sd od _ 0 g15 512 (fullB 1) _ 0 nd2 hDd_15 rfl (by omega) (by show (0 : Int) < _; decide) hr_15 (sec_full 1) rfl rfl).mono ?_
  rintro e w16 ⟨rfl, hDd_16, ht16⟩
  clear hr_15
  have hT16 := hT15.trans (W := fun _ => False) ht16 (fun _ h => h) (fun i hi => .inr (hfrd.out i hi))
  clear hT15 ht16
  clear hDd_15
  go_wp2_with fail
  refine (sync_crash dd sd od _ _ hDd_16 rfl rfl).mono ?_
  rintro e w17 ⟨rfl, hDd_17, ht17⟩
  have hT17 := hT16.trans (W := fun _ => False) ht17 (fun _ h => h) (fun i hi => .inr (hfrd.out i hi))
  clear hT16 ht17
  clear hDd_16
  obtain ⟨c0, c1, c2, c3, c4⟩ := cells_of_blk hDd_17.blk
  go_wp2_with fail
  refine (read_err _ 0 8 _ (may_down dd 1 0 _ c0 (by omega) c4) rfl).mono ?_
  rintro e w18 ⟨rfl, rfl⟩
  clear c0 c1 c2 c3 c4
  obtain ⟨c0, c1, c2, c3, c4⟩ := cells_of_blk hDd_17.blk
  go_wp2_with fail
  refine (arm_down dd 5 _ c4).mono ?_
  rintro e w19 ⟨rfl, rfl⟩
  clear c0 c1 c2 c3 c4
  go_wp2_with fail
  refine (wake_to dd sd od _ none 0 0 [] _ nd4 hDd_17 ⟨rfl, by omega, by simp, fun h => absurd h (by omega)⟩ rfl).mono ?_
  rintro e w20 ⟨rfl, hDd_20, ht20⟩
  have hT20 := hT17.trans (W := fun _ => False) ht20 (fun _ h => h) (fun i hi => .inr (hfrd.out i hi))
  clear hT17 ht20
  clear hDd_17
  go_wp2_with fail
  have hltd := Lib.hid (fun k hk => hDd_20.lt (k := k) hk)
  refine (read_to dd sd od _ 0 (noughts) _ hDd_20 rfl (by omega) (by show (0 : Int) < _; decide) rfl).mono ?_
  rintro e w21 ⟨g21, cap21, rfl, hx_21, hghx, ht21⟩
  have hDd_21 := hDd_20.fresh ht21
  clear hDd_20
  have hT21 := hT20.trans (W := fun _ => False) ht21 (fun _ h => h) (fun _ h => .inl h)
  clear hT20 ht21
  obtain ⟨w22, hmk, hown, hgr⟩ := run_make_full (P := Try.prog) w21 0 35 5 i0 (.int .u8 0) 1 Try.underlying35 HI.out.1 HI.out.2.1 HI.out.2.2.1 .i64 .i64 512 (by rw [HI.out.2.2.2]; omega) (by unfold maxLen; omega) (Nat.zero_le _)
  have hmk22 : (Instr.makeSlice 35 (.int .i64 512) (.int .i64 512)).run Try.prog w21 = .ok (.slice (some ⟨w21.heap.size, 0, none⟩) 512 512) w22 := hmk
  rw [made_u8] at hown
  have hm_22 := RowB.of_own hown
  have ht22 := (Turned.refl (fun _ => False) w21).grown hgr (by simp)
  clear hmk hown hgr
  have hDd_22 := hDd_21.fresh ht22
  clear hDd_21
  have hx_22 := hx_21.turned ht22 (fun e => e)
  clear hx_21
  have hT22 := hT21.trans (W := fun _ => False) ht22 (fun _ h => h) (fun _ h => .inl h)
  clear hT21 ht22
  go_wp2_with fail
  refine (same_yes _ _ 512 512 _ _ _ _ _ hx_22.bytR hm_22.bytR rfl).mono ?_
  rintro e w23 ⟨rfl, n23, rfl⟩
  have ht23 := (Turned.refl (fun _ => False) w22).drewN n23
  have hDd_23 := hDd_22.fresh ht23
  clear hDd_22
  have hx_23 := hx_22.turned ht23 (fun e => e)
  clear hx_22
  have hm_23 := hm_22.turned ht23 (fun e => e)
  clear hm_22
  have hT23 := hT22.trans (W := fun _ => False) ht23 (fun _ h => h) (fun _ h => .inl h)
  clear hT22 ht23
  clear hx_23
  clear hm_23
  obtain ⟨c0, c1, c2, c3, c4⟩ := cells_of_blk hDd_23.blk
  go_wp2_with fail
  refine (down_any dd false _ c4).mono ?_
  rintro e w24 ⟨rfl, rfl⟩
  clear c0 c1 c2 c3 c4
  go_wp2_with fail
  refine (arm_ok dd sd od _ 1 _ hDd_23 rfl (by omega)).mono ?_
  rintro e w25 ⟨rfl, hDd_25, ht25⟩
  have hT25 := hT23.trans (W := fun _ => False) ht25 (fun _ h => h) (fun i hi => .inr (hfrd.out i hi))
  clear hT23 ht25
  clear hDd_23
  go_wp2_with fail
  refine (full_any 1 _ (by omega) (by omega)).mono ?_
  rintro e w26 ⟨g26, rfl, hr_26, hg26, ht26⟩
  have hDd_26 := hDd_25.fresh ht26
  clear hDd_25
  have hT26 := hT25.trans (W := fun _ => False) ht26 (fun _ h => h) (fun _ h => .inl h)
  clear hT25 ht26
  clear hg26
  obtain ⟨c0, c1, c2, c3, c4⟩ := cells_of_blk hDd_26.blk
  go_wp2_with fail
  refine (write_err _ 1 6 _ (may_none dd 1 1 _ c0 (by omega) c4 (by omega)) rfl _).mono ?_
  rintro e w27 ⟨rfl, rfl⟩
  clear c0 c1 c2 c3 c4
  clear hr_26
  obtain ⟨c0, c1, c2, c3, c4⟩ := cells_of_blk hDd_26.blk
  go_wp2_with fail
  refine (write_arg _ 0 _ (may_ok dd 1 0 _ c0 (by omega) c4 (by omega) (by omega)) none 0 0 rfl).mono ?_
  rintro e w28 ⟨rfl, rfl⟩
  clear c0 c1 c2 c3 c4
  go_wp2_with fail
  refine (full_any 1 _ (by omega) (by omega)).mono ?_
  rintro e w29 ⟨g29, rfl, hr_29, hg29, ht29⟩
  have hDd_29 := hDd_26.fresh ht29
  clear hDd_26
  have hT29 := hT26.trans (W := fun _ => False) ht29 (fun _ h => h) (fun _ h => .inl h)
  clear hT26 ht29
  clear hg29
  go_wp2_with fail
  refine (write_to dd sd od _ 0 g29 512 (fullB 1) _ 8 nd6 hDd_29 rfl (by omega) (by show (0 : Int) < _; decide) hr_29 (sec_full 1) rfl rfl).mono ?_
  rintro e w30 ⟨rfl, hDd_30, ht30⟩
  clear hr_29
  have hT30 := hT29.trans (W := fun _ => False) ht30 (fun _ h => h) (fun i hi => .inr (hfrd.out i hi))
  clear hT29 ht30
  clear hDd_29
  obtain ⟨c0, c1, c2, c3, c4⟩ := cells_of_blk hDd_30.blk
  go_wp2_with fail
  refine (down_any dd true _ c4).mono ?_
  rintro e w31 ⟨rfl, rfl⟩
  clear c0 c1 c2 c3 c4
  go_wp2_with fail
  refine (full_any 2 _ (by omega) (by omega)).mono ?_
  rintro e w32 ⟨g32, rfl, hr_32, hg32, ht32⟩
  have hDd_32 := hDd_30.fresh ht32
  clear hDd_30
  have hT32 := hT30.trans (W := fun _ => False) ht32 (fun _ h => h) (fun _ h => .inl h)
  clear hT30 ht32
  clear hg32
  obtain ⟨c0, c1, c2, c3, c4⟩ := cells_of_blk hDd_32.blk
  go_wp2_with fail
  refine (write_err _ 0 8 _ (may_down dd 1 0 _ c0 (by omega) c4) rfl _).mono ?_
  rintro e w33 ⟨rfl, rfl⟩
  clear c0 c1 c2 c3 c4
  clear hr_32
  obtain ⟨c0, c1, c2, c3, c4⟩ := cells_of_blk hDd_32.blk
  go_wp2_with fail
  refine (sync_err _ 8 _ (may_down dd 1 0 _ c0 (by omega) c4) rfl).mono ?_
  rintro e w34 ⟨rfl, rfl⟩
  clear c0 c1 c2 c3 c4
  obtain ⟨c0, c1, c2, c3, c4⟩ := cells_of_blk hDd_32.blk
  go_wp2_with fail
  refine (write_err _ 7 8 _ (may_down dd 1 7 _ c0 (by omega) c4) rfl _).mono ?_
  rintro e w35 ⟨rfl, rfl⟩
  clear c0 c1 c2 c3 c4
  go_wp2_with fail
  have hfx := Blk.new w32 39 #[.int .i64 3, .int .i64 0, .int .i64 (-1)]
  have ht36 := (Turned.refl (fun _ => False) w32).alloc (.cells #[.int .i64 3, .int .i64 0, .int .i64 (-1)] 39)
  have hI : IntsR (w32.alloc (.cells #[.int .i64 3, .int .i64 0, .int .i64 (-1)] 39)) dd (some ⟨w32.heap.size, 0, none⟩) 3 [3, 0, -1] := ints3 hfx (by have := hDd_32.lt (.inl rfl); omega)
  have hDd_36 := hDd_32.fresh ht36
  clear hDd_32
  have hT36 := hT32.trans (W := fun _ => False) ht36 (fun _ h => h) (fun _ h => .inl h)
  clear hT32 ht36
  refine (wake_to dd sd od _ _ 3 _ [3, 0, -1] _ nd7 hDd_36 hI rfl).mono ?_
  rintro e w37 ⟨rfl, hDd_37, ht37⟩
  clear hI hfx
  have hT37 := hT36.trans (W := fun _ => False) ht37 (fun _ h => h) (fun i hi => .inr (hfrd.out i hi))
  clear hT36 ht37
  clear hDd_36
  go_wp2_with fail
  have hltd := Lib.hid (fun k hk => hDd_37.lt (k := k) hk)
  refine (read_to dd sd od _ 0 (fullB 1) _ hDd_37 rfl (by omega) (by show (0 : Int) < _; decide) rfl).mono ?_
  rintro e w38 ⟨g38, cap38, rfl, hx_38, hghx, ht38⟩
  have hDd_38 := hDd_37.fresh ht38
  clear hDd_37
  have hT38 := hT37.trans (W := fun _ => False) ht38 (fun _ h => h) (fun _ h => .inl h)
  clear hT37 ht38
  go_wp2_with fail
  refine (arm_ok dd sd od _ 1 _ hDd_38 rfl (by omega)).mono ?_
  rintro e w39 ⟨rfl, hDd_39, ht39⟩
  have hx_39 := hx_38.turned ht39 (fun e => absurd (hltd.out _ e) (by have := hghx; omega))
  clear hx_38
  have hT39 := hT38.trans (W := fun _ => False) ht39 (fun _ h => h) (fun i hi => .inr (hfrd.out i hi))
  clear hT38 ht39
  clear hDd_38
  go_wp2_with fail
  refine (arm_ok dd sd od _ 0 _ hDd_39 rfl (by omega)).mono ?_
  rintro e w40 ⟨rfl, hDd_40, ht40⟩
  have hx_40 := hx_39.turned ht40 (fun e => absurd (hltd.out _ e) (by have := hghx; omega))
  clear hx_39
  have hT40 := hT39.trans (W := fun _ => False) ht40 (fun _ h => h) (fun i hi => .inr (hfrd.out i hi))
  clear hT39 ht40
  clear hDd_39
  go_wp2_with fail
  refine (full_any 1 _ (by omega) (by omega)).mono ?_
  rintro e w41 ⟨g41, rfl, hm_41, hg41, ht41⟩
  have hx_41 := hx_40.turned ht41 (fun e => e)
  clear hx_40
  have hDd_41 := hDd_40.fresh ht41
  clear hDd_40
  have hT41 := hT40.trans (W := fun _ => False) ht41 (fun _ h => h) (fun _ h => .inl h)
  clear hT40 ht41
  clear hg41
  go_wp2_with fail
  refine (same_yes _ _ 512 512 _ _ _ _ _ hx_41.bytR hm_41.bytR rfl).mono ?_
  rintro e w42 ⟨rfl, n42, rfl⟩
  have ht42 := (Turned.refl (fun _ => False) w41).drewN n42
  have hx_42 := hx_41.turned ht42 (fun e => e)
  clear hx_41
  have hDd_42 := hDd_41.fresh ht42
  clear hDd_41
  have hm_42 := hm_41.turned ht42 (fun e => e)
  clear hm_41
  have hT42 := hT41.trans (W := fun _ => False) ht42 (fun _ h => h) (fun _ h => .inl h)
  clear hT41 ht42
  clear hx_42
  clear hm_42
  go_wp2_with fail
  refine (sync_to dd sd od _ _ nd8 hDd_42 rfl rfl rfl).mono ?_
  rintro e w43 ⟨rfl, hDd_43, ht43⟩
  have hT43 := hT42.trans (W := fun _ => False) ht43 (fun _ h => h) (fun i hi => .inr (hfrd.out i hi))
  clear hT42 ht43
  clear hDd_42
  go_wp2_with fail
  refine (fates_any _).mono ?_
  rintro e w44 ⟨rfl, ht44⟩
  have hDd_44 := hDd_43.fresh ht44
  clear hDd_43
  have hT44 := hT43.trans (W := fun _ => False) ht44 (fun _ h => h) (fun _ h => .inl h)
  clear hT43 ht44
  go_wp2_with fail
  refine (awake_any _).mono ?_
  rintro e w45 ⟨rfl, ht45⟩
  have hDd_45 := hDd_44.fresh ht45
  clear hDd_44
  have hT45 := hT44.trans (W := fun _ => False) ht45 (fun _ h => h) (fun _ h => .inl h)
  clear hT44 ht45
  go_wp2_with fail
  go_ret
  exact ⟨rfl, hT45⟩
end Go.Proofs.Ytobjoafhhchjgaa
