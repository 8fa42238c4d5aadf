/-
  The disk's awake (the chapter's first example), and what no disk does.
-/
import Derived.Test.YtmblonmpiomjgaaGreatKit
namespace Go.Proofs.YtmblonmpiomjgaaGreat
open Go.RowKit Go.Maps

theorem same_yes (A B : Option Addr) (n m c1 c2 : Nat) (zs ys : List Int) (w : World) (hz : BytR w A n zs) (hy : BytR w B m ys) (h : zs = ys) :
    Calls Tryz.prog 15 #[.slice A n c1, .slice B m c2] w (RetDraw (.bool true) w) := by
  have := same_bytes A B n m c1 c2 zs ys w hz hy
  rw [decide_eq_true h] at this
  exact this

/-- A write, with its answer and what comes of it given. -/
theorem write_to (d s o : Nat) (A : DA) (k : Int) (g cap : Nat) (zs : List Int) (w : World) (c : Int) (A' : DA) (h : IsDisk w d s o A) (hdn : A.down = false) (h0 : 0 ≤ k) (h1 : k < A.n) (hr : RowB w 5 g 512 cap zs) (hz : Sec zs)
    (hc : codeOf (tickD A.armed) = c) (hA : A.write k zs = A') :
    Calls Tryz.prog 17 #[.pointer (some ⟨d, 0, none⟩), .int .i64 k, .slice (some ⟨g, 0, none⟩) 512 cap] w (StPost c d s o A' w) := by
  subst hc hA
  exact write_ok d s o A k g cap zs w h hdn h0 h1 hr hz.byte
theorem sync_to (d s o : Nat) (A : DA) (w : World) (A' : DA) (h : IsDisk w d s o A) (hdn : A.down = false) (hb : tickD A.armed = false) (hA : A.sync = A') :
    Calls Tryz.prog 19 #[.pointer (some ⟨d, 0, none⟩)] w (StPost 0 d s o A' w) := by
  subst hA
  exact sync_ok d s o A w h hdn hb
theorem read_to (d s o : Nat) (A : DA) (k : Int) (zs : List Int) (w : World) (h : IsDisk w d s o A) (hdn : A.down = false) (h0 : 0 ≤ k) (h1 : k < A.n) (hz : A.lat k = zs) :
    Calls Tryz.prog 13 #[.pointer (some ⟨d, 0, none⟩), .int .i64 k] w (ReadPost zs w) := by
  subst hz
  exact read_ok d s o A k w h hdn h0 h1

def aw1 : DA := (DA.new 2).write 0 (fullB 1)
def aw2 : DA := aw1.write 1 (fullB 1)
def aw3 : DA := aw2.sync
def aw4 : DA := aw3.write 0 (fullB 50)
def aw5 : DA := aw4.write 1 (fullB 50)
def aw6 : DA := aw5.wake [1]

def OkNew (w : World) (e : Ending) (w' : World) : Prop := e = .returned (.bool true) ∧ Turned (fun _ => False) w w'

set_option maxRecDepth 100000 in
set_option maxHeartbeats 2000000 in
theorem awake_any (w : World) : Calls Tryz.prog 6 #[] w (OkNew w) := by
  go_enter Tryz.func6, Tryz.ntmps6
  go_wp2_with fail
  refine (new_yes 2 _ (by omega) (by omega)).mono ?_
  rintro e w1 ⟨d, s, o, rfl, hD1, ht1, hfr, _⟩
  have hfr' := Lib.hid hfr
  clear hfr
  go_wp2_with fail
  refine (full_any 1 _ (by omega) (by omega)).mono ?_
  rintro e w2 ⟨g2, rfl, hr2, hg2, ht2⟩
  have hD2 := hD1.fresh ht2
  have hT2 := ht1.trans (W := fun _ => False) ht2 (fun _ h => h) (fun _ h => .inl h)
  clear hD1 ht1 ht2 hg2
  go_wp2_with fail
  refine (write_to d s o _ 0 g2 512 (fullB 1) _ 0 aw1 hD2 rfl (by omega) (by show (0 : Int) < 2; omega) hr2 (sec_full 1) rfl rfl).mono ?_
  rintro e w3 ⟨rfl, hD3, ht3⟩
  have hT3 := hT2.trans (W := fun _ => False) ht3 (fun _ h => h) (fun i hi => .inr (hfr'.out i hi))
  clear hD2 ht3 hT2 hr2
  go_wp2_with fail
  refine (full_any 1 _ (by omega) (by omega)).mono ?_
  rintro e w4 ⟨g4, rfl, hr4, hg4, ht4⟩
  have hD4 := hD3.fresh ht4
  have hT4 := hT3.trans (W := fun _ => False) ht4 (fun _ h => h) (fun _ h => .inl h)
  clear hD3 ht4 hT3 hg4
  go_wp2_with fail
  refine (write_to d s o _ 1 g4 512 (fullB 1) _ 0 aw2 hD4 rfl (by omega) (by show (1 : Int) < 2; omega) hr4 (sec_full 1) rfl rfl).mono ?_
  rintro e w5 ⟨rfl, hD5, ht5⟩
  have hT5 := hT4.trans (W := fun _ => False) ht5 (fun _ h => h) (fun i hi => .inr (hfr'.out i hi))
  clear hD4 ht5 hT4 hr4
  go_wp2_with fail
  refine (sync_to d s o _ _ aw3 hD5 rfl rfl rfl).mono ?_
  rintro e w6 ⟨rfl, hD6, ht6⟩
  have hT6 := hT5.trans (W := fun _ => False) ht6 (fun _ h => h) (fun i hi => .inr (hfr'.out i hi))
  clear hD5 ht6 hT5
  go_wp2_with fail
  refine (full_any 50 _ (by omega) (by omega)).mono ?_
  rintro e w7 ⟨g7, rfl, hr7, hg7, ht7⟩
  have hD7 := hD6.fresh ht7
  have hT7 := hT6.trans (W := fun _ => False) ht7 (fun _ h => h) (fun _ h => .inl h)
  clear hD6 ht7 hT6 hg7
  go_wp2_with fail
  refine (write_to d s o _ 0 g7 512 (fullB 50) _ 0 aw4 hD7 rfl (by omega) (by show (0 : Int) < 2; omega) hr7 (sec_full 50) rfl rfl).mono ?_
  rintro e w8 ⟨rfl, hD8, ht8⟩
  have hT8 := hT7.trans (W := fun _ => False) ht8 (fun _ h => h) (fun i hi => .inr (hfr'.out i hi))
  clear hD7 ht8 hT7 hr7
  go_wp2_with fail
  refine (full_any 50 _ (by omega) (by omega)).mono ?_
  rintro e w9 ⟨g9, rfl, hr9, hg9, ht9⟩
  have hD9 := hD8.fresh ht9
  have hT9 := hT8.trans (W := fun _ => False) ht9 (fun _ h => h) (fun _ h => .inl h)
  clear hD8 ht9 hT8 hg9
  go_wp2_with fail
  refine (write_to d s o _ 1 g9 512 (fullB 50) _ 0 aw5 hD9 rfl (by omega) (by show (1 : Int) < 2; omega) hr9 (sec_full 50) rfl rfl).mono ?_
  rintro e w10 ⟨rfl, hD10, ht10⟩
  have hT10 := hT9.trans (W := fun _ => False) ht10 (fun _ h => h) (fun i hi => .inr (hfr'.out i hi))
  clear hD9 ht10 hT9 hr9
  go_wp2_with fail
  have hx := Blk.new w10 56 #[.int .i64 1]
  have hD11 := hD10.fresh ((Turned.refl _ w10).alloc (.cells #[.int .i64 1] 56))
  have hT11 := hT10.alloc (.cells #[.int .i64 1] 56)
  have hI : IntsR (w10.alloc (.cells #[.int .i64 1] 56)) d (some ⟨w10.heap.size, 0, none⟩) 1 [1] :=
    ⟨rfl, by omega, by intro f hf; simp at hf; subst hf; rfl, fun _ => ⟨_, _, rfl, by have := hD10.lt (.inl rfl); omega, fun j hj => by
      have : j = 0 := by omega
      subst this
      exact hx.cell 0⟩⟩
  refine (wake_any d s o _ _ 1 _ [1] _ hD11 hI).mono ?_
  rintro e w12 ⟨rfl, hD12', ht12⟩
  have hD12 : IsDisk w12 d s o aw6 := hD12'
  have hT12 := hT11.trans (W := fun _ => False) ht12 (fun _ h => h) (fun i hi => .inr (hfr'.out i hi))
  clear hD10 hD11 hD12' ht12 hT10 hT11 hx hI
  go_wp2_with fail
  refine (read_to d s o _ 0 (fullB 1) _ hD12 rfl (by omega) (by show (0 : Int) < 2; omega) rfl).mono ?_
  rintro e w13 ⟨ga, ca, rfl, ha13, hga, ht13⟩
  have hD13 := hD12.fresh ht13
  have hT13 := hT12.trans (W := fun _ => False) ht13 (fun _ h => h) (fun _ h => .inl h)
  clear hD12 ht13 hT12 hga
  go_wp2_with fail
  refine (read_to d s o _ 1 (fullB 50) _ hD13 rfl (by omega) (by show (1 : Int) < 2; omega) rfl).mono ?_
  rintro e w14 ⟨gb, cb, rfl, hb14, hgb, ht14⟩
  have hD14 := hD13.fresh ht14
  have ha14 := ha13.turned ht14 (fun e => e)
  have hT14 := hT13.trans (W := fun _ => False) ht14 (fun _ h => h) (fun _ h => .inl h)
  clear hD13 ht14 hT13 ha13 hgb
  go_wp2_with fail
  refine (full_any 1 _ (by omega) (by omega)).mono ?_
  rintro e w15 ⟨g15, rfl, hr15, hg15, ht15⟩
  have hD15 := hD14.fresh ht15
  have ha15 := ha14.turned ht15 (fun e => e)
  have hb15 := hb14.turned ht15 (fun e => e)
  have hT15 := hT14.trans (W := fun _ => False) ht15 (fun _ h => h) (fun _ h => .inl h)
  clear hD14 ht15 hT14 ha14 hb14 hg15
  go_wp2_with fail
  refine (same_yes _ _ 512 512 _ _ _ _ _ ha15.bytR hr15.bytR rfl).mono ?_
  rintro e w16 ⟨rfl, n16, rfl⟩
  go_wp2_with fail
  refine (full_any 50 _ (by omega) (by omega)).mono ?_
  rintro e w17 ⟨g17, rfl, hr17, hg17, ht17⟩
  have ht17' := ht17.of_drewN
  have hD17 := hD15.fresh ht17'
  have hb17 := hb15.turned ht17' (fun e => e)
  have hT17 := hT15.trans (W := fun _ => False) ht17' (fun _ h => h) (fun _ h => .inl h)
  clear hD15 ht17 ht17' hT15 ha15 hb15 hg17 hr15
  go_wp2_with fail
  refine (same_yes _ _ 512 512 _ _ _ _ _ hb17.bytR hr17.bytR rfl).mono ?_
  rintro e w18 ⟨rfl, n18, rfl⟩
  obtain ⟨c0, c1, c2, c3, c4⟩ := cells_of_blk (hD17.blk.drewN n18)
  go_wp2_with fail
  refine (sectors_any d 2 _ c0).mono ?_
  rintro e w19 ⟨rfl, rfl⟩
  go_wp2_with fail
  refine (new_no 0 _ (by omega)).mono ?_
  rintro e w20 ⟨rfl, rfl⟩
  go_wp2_with fail
  refine (write_arg _ 0 _ (may_ok d 2 0 _ c0 (by omega) c4 (by omega) (by omega)) none 0 0 rfl).mono ?_
  rintro e w21 ⟨rfl, rfl⟩
  go_wp2_with fail
  go_ret
  exact ⟨rfl, hT17.drewN _⟩
end Go.Proofs.YtmblonmpiomjgaaGreat
