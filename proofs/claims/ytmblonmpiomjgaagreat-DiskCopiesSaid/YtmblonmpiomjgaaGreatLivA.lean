/-
  What a step of a disk's life writes.
-/
import Derived.Test.YtmblonmpiomjgaaGreatAll
import Derived.Test.YtmblonmpiomjgaaGreatOpenD
namespace Go.Proofs.YtmblonmpiomjgaaGreat
open Go.RowKit Go.Maps

def doBytes (x : DoV) : List Int := if x.num.tmod 7 = 3 then (fullB x.byt).take (x.num % 512).toNat else fullB x.byt
theorem doBytes_byte (x : DoV) : ∀ z ∈ doBytes x, isByte z := by
  intro z hz
  unfold doBytes at hz
  split at hz
  · exact (sec_full _).byte z (List.mem_of_mem_take hz)
  · exact (sec_full _).byte z hz
def BPost (x : DoV) (w : World) (e : Ending) (w' : World) : Prop :=
  ∃ g n, e = .returned (.slice (some ⟨g, 0, none⟩) n 512) ∧ n ≤ 512 ∧ RowB w' 5 g n 512 (doBytes x) ∧ w.heap.size ≤ g ∧ Turned (fun _ => False) w w'
set_option maxRecDepth 100000 in
theorem doBytes_any (x : DoV) (w : World) (h1 : -9223372036854775808 ≤ x.num ∧ x.num ≤ 9223372036854775807) (h2 : 0 ≤ x.byt ∧ x.byt ≤ 255) :
    Calls Tryz.prog 21 #[.agg #[.int .i64 x.op, .int .i64 x.sec, .int .i64 x.num, .int .u8 x.byt, .slice x.F x.fn x.fc]] w (BPost x w) := by
  obtain ⟨op, sec, num, byt, F, fn, fc, fs⟩ := x
  have hm0 := Int.emod_nonneg num (show (512 : Int) ≠ 0 by omega)
  have hm1 := Int.emod_lt_of_pos num (show (0 : Int) < 512 by omega)
  by_cases h7 : num.tmod 7 = 3
  · have hb : (num.tmod 7 == 3) = true := by rw [beq_iff_eq]; exact h7
    have h7' := Lib.hid h7
    clear h7
    go_enter Tryz.func21, Tryz.ntmps21
    go_wp2_with fail
    have hx := Blk.new w 31 #[.int .i64 op, .int .i64 sec, .int .i64 num, .int .u8 byt, .slice F fn fc]
    refine (full_any byt _ h2.1 h2.2).mono ?_
    rintro e w1 ⟨g, rfl, hr, hg, ht⟩
    have hx1 := hx.turned ht (fun e => e)
    have q2 : w1.cell? ⟨w.heap.size, 2, none⟩ = some (.int .i64 num) := hx1.cell 2
    have hr' := Lib.hid hr
    have ht' := Lib.hid ((Turned.refl (fun _ => False) w).alloc (.cells #[.int .i64 op, .int .i64 sec, .int .i64 num, .int .u8 byt, .slice F fn fc] 31) |>.trans (W := fun _ => False) ht (fun _ e => e) (fun _ e => e.elim))
    have hg' : w.heap.size ≤ g := by simp at hg; omega
    clear hr hx hx1 ht hg
    go_wp2_with fail
    refine (pick_any num 512 _ (by omega) (by omega) h1.1 h1.2).mono ?_
    rintro e w2 ⟨rfl, rfl⟩
    go_wp2_with fail
    go_ret
    have e1 : doBytes ⟨op, sec, num, byt, F, fn, fc, fs⟩ = (fullB byt).take (num % 512).toNat := by unfold doBytes; rw [if_pos h7'.out]
    exact ⟨g, (num % 512).toNat, rfl, by omega, by rw [e1]; exact hr'.out.cut (by omega), hg', ht'.out⟩
  · have hb : (num.tmod 7 == 3) = false := by rw [beq_eq_false_iff_ne]; exact h7
    have h7' := Lib.hid h7
    clear h7
    go_enter Tryz.func21, Tryz.ntmps21
    go_wp2_with fail
    have hx := Blk.new w 31 #[.int .i64 op, .int .i64 sec, .int .i64 num, .int .u8 byt, .slice F fn fc]
    refine (full_any byt _ h2.1 h2.2).mono ?_
    rintro e w1 ⟨g, rfl, hr, hg, ht⟩
    have hx1 := hx.turned ht (fun e => e)
    have q2 : w1.cell? ⟨w.heap.size, 2, none⟩ = some (.int .i64 num) := hx1.cell 2
    have hr' := Lib.hid hr
    have ht' := Lib.hid ((Turned.refl (fun _ => False) w).alloc (.cells #[.int .i64 op, .int .i64 sec, .int .i64 num, .int .u8 byt, .slice F fn fc] 31) |>.trans (W := fun _ => False) ht (fun _ e => e) (fun _ e => e.elim))
    have hg' : w.heap.size ≤ g := by simp at hg; omega
    clear hr hx hx1 ht hg
    go_wp2_with fail
    go_ret
    have e1 : doBytes ⟨op, sec, num, byt, F, fn, fc, fs⟩ = fullB byt := by unfold doBytes; rw [if_neg h7'.out]
    exact ⟨g, 512, rfl, by omega, by rw [e1]; exact hr'.out, hg', ht'.out⟩
end Go.Proofs.YtmblonmpiomjgaaGreat
