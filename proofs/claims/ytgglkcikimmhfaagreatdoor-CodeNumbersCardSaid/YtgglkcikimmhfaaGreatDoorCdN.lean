/-
  storemanlaw03.CodeNumbers, the walk. Conditions: three variables of the library's hold what their initialisers lay.
-/
import Derived.Test.YtgglkcikimmhfaaGreatDoorCodI
import Derived.Test.YtgglkcikimmhfaaGreatDoorCodM
import Derived.Test.YtgglkcikimmhfaaGreatDoorCodR
import Derived.Test.YtgglkcikimmhfaaGreatDoorRpt
import Derived.Test.YtgglkcikimmhfaaGreatDoorRegC
import Derived.BigFrame
namespace Go.Proofs.YtgglkcikimmhfaaGreatDoor
open Go.RowKit Go.Maps
set_option linter.unusedVariables false
set_option linter.unusedSimpArgs false

theorem lit_ok (w : World) (cs : Array Value) (zs : List Int) (n : Nat) (h : cs.toList = u8s zs) (hl : zs.length = n) (hn : n ≤ 100) (hb : ∀ z ∈ zs, isByte z) : BytsOk (w.alloc (.cells cs 5)) (some ⟨w.heap.size, 0, none⟩) n n zs := by
  have hs : cs.size = n := by
    rw [← Array.length_toList, h, u8s_length, hl]
  have r : RowB (w.alloc (.cells cs 5)) 5 w.heap.size n n zs := ⟨hl, Nat.le_refl _, by unfold maxLen; omega, cs, Blk.new w 5 cs, hs, by rw [List.take_of_length_le (by rw [Array.length_toList]; omega)]; exact h⟩
  exact ⟨r.bytS n, hb, Nat.le_refl _, by unfold maxLen; omega⟩
theorem ints_byte (l : List UInt8) : ∀ z ∈ ints l, isByte z := by
  intro z hz
  obtain ⟨c, _, rfl⟩ := List.mem_map.1 hz
  have := c.toNat_lt
  exact ⟨by omega, by omega⟩
/-- One byte, and a text behind it. -/
theorem app_ok {w : World} {g cap n : Nat} {c : Int} {s : ByteArray} (hc : isByte c) (hr : RowB w 5 g (1 + n) cap ([c] ++ ints s.data.toList)) : BytsOk w (some ⟨g, 0, none⟩) (1 + n) cap ([c] ++ ints s.data.toList) :=
  ⟨hr.bytS cap, fun z hz => by
    rcases List.mem_append.1 hz with h | h
    · rw [List.mem_singleton.1 h]; exact hc
    · exact ints_byte _ z h, hr.le, hr.max⟩
theorem one_own (w w2 : World) (c : Int) (ht : Turned (fun _ => False) (w.alloc (.cells #[.int .u8 c] 5)) w2) : w2.ownsRow w.heap.size 5 1 (.slice (some ⟨w.heap.size, 0, none⟩) 1 1) 1 (u8s [c]) :=
  RowB.own (g := w.heap.size) (RowB.turned (W := fun _ => False) ⟨rfl, Nat.le_refl _, (by unfold maxLen; show (1 : Nat) ≤ _; omega), _, Blk.new w 5 #[.int .u8 c], rfl, rfl⟩ ht (fun e => e)) (Nat.le_refl _)
theorem grown_fresh {w0 w w2 w3 : World} {o : Obj} (ht : Turned (fun _ => False) w0 w) (t2 : Turned (fun _ => False) (w.alloc o) w2) (hg : w2.grownBy w3 (some w.heap.size)) : Turned (fun _ => False) w0 w3 :=
  ((ht.alloc o).trans (W := fun _ => False) t2 (fun _ e => e) (fun _ e => e.elim)).grown hg (fun k e => by injection e with e; have := ht.size; exact .inr (by omega))
theorem wpList_app_strG {P : Program} {w : World} {S U T : TypeId} {ops : Array Oper} {rest : List Oper} {o : Oper} {a : Act} {Q : Exit → Act → World → Prop} (B : BytT P S U) (hT : P.underlying T = some .string) (hgd : Region.wanted o (yielded ops a.tmps) = true) (s x : Operand)
    (ho : o.op = .call { callee := .builtin .append, args := #[s, x], argTypes := #[S, T] }) {base n : Nat} {v : Value} {xs : List Int} (hown : w.ownsRow base U 1 v n (u8s xs)) (str : ByteArray) (hm : 0 < n) (hb : n + str.size ≤ 140737488355328) (hbase : base ≤ w.heap.size)
    (hs : a.eval s = v) (hx : a.eval x = .string str)
    (h : ∀ g cap w', RowB w' U g (n + str.size) cap (xs ++ ints str.data.toList) → base ≤ g → w.grownBy w' v.ownBlock → wpList P ops Q rest (a.put o.dst (.slice (some ⟨g, 0, none⟩) (n + str.size) cap)) w') : wpList P ops Q (o :: rest) a w := by
  obtain ⟨i, hi, hz0, hz1, hz2⟩ := info_parts B.info
  obtain ⟨v', w', hrun, h2, h3, _⟩ := Lib.run_append_own_string (P := P) w base S T o.type U i B.und hT hi hz0 hz1 hz2 v n (u8s xs) hown str (by unfold maxLen; omega) hb hbase
  obtain ⟨g, cap, rfl, hge, _⟩ := h2.form (by omega)
  refine BigFrame.wpList_want hgd (fun K hK => Lib.wp_append_run w s x S T ho _ _ hs hx _ _ hrun (hK _ _ (h g cap w' (RowB.of_own (base := base) ?_) hge h3)))
  have : u8s (xs ++ ints str.data.toList) = u8s xs ++ Lib.strCells str := by rw [strCells_ints]; simp [u8s]
  rw [this]; exact h2
theorem itoa_few (v : Int) (h : int64 v) : (Lib.itoa v).length ≤ 100 := by
  have h20 : (Lib.decDigits v.natAbs).length ≤ 20 := by
    rw [Lib.decDigits_length]
    unfold int64 at h
    exact nDigits_le v.natAbs 20 (by omega) (by omega)
  unfold Lib.itoa
  split
  · rw [List.length_cons]; omega
  · have e : v.toNat = v.natAbs := by omega
    rw [e]; omega
theorem num_text (v : Int) (w : World) (hv : VarsOk w) (h : int64 v) : Calls Tryz.prog 8 #[.string ⟨(Lib.itoa v).toArray⟩] w (fun e w' => e = .returned (.tuple #[.int .i64 v, .bool true]) ∧ Turned (fun _ => False) w w') := by
  have hl := itoa_few v h
  have hn := number_any ⟨(Lib.itoa v).toArray⟩ w hv (by show (Lib.itoa v).toArray.size ≤ _; simp; omega)
  unfold NumPost at hn
  rw [show numL (⟨(Lib.itoa v).toArray⟩ : ByteArray).data.toList = some v from numL_itoa v h] at hn
  exact hn
def numsC : Array Value := #[.int .i64 (-9223372036854775808), .int .i64 (-9223372036854775807), .int .i64 (-10), .int .i64 (-1), .int .i64 0, .int .i64 1, .int .i64 9, .int .i64 10, .int .i64 9223372036854775807]
theorem nums_at (i : Nat) (hi : i < 9) : ∃ v : Int, numsC[i]? = some (.int .i64 v) ∧ int64 v := by
  rcases (show i = 0 ∨ i = 1 ∨ i = 2 ∨ i = 3 ∨ i = 4 ∨ i = 5 ∨ i = 6 ∨ i = 7 ∨ i = 8 by omega) with rfl | rfl | rfl | rfl | rfl | rfl | rfl | rfl | rfl <;> exact ⟨_, rfl, by unfold int64; omega⟩
def noC : Array Value := #[.string ⟨#[]⟩, .string ⟨#[45]⟩, .string ⟨#[45, 48]⟩, .string ⟨#[48, 48]⟩, .string ⟨#[48, 49]⟩, .string ⟨#[45, 48, 49]⟩, .string ⟨#[43, 49]⟩, .string ⟨#[49, 32]⟩, .string ⟨#[32, 49]⟩, .string ⟨#[49, 97]⟩, .string ⟨#[57, 50, 50, 51, 51, 55, 50, 48, 51, 54, 56, 53, 52, 55, 55, 53, 56, 48, 56]⟩, .string ⟨#[45, 57, 50, 50, 51, 51, 55, 50, 48, 51, 54, 56, 53, 52, 55, 55, 53, 56, 48, 57]⟩, .string ⟨#[49, 48, 48, 48, 48, 48, 48, 48, 48, 48, 48, 48, 48, 48, 48, 48, 48, 48, 48, 48]⟩, .string ⟨#[48, 120, 49]⟩, .string ⟨#[49, 46, 48]⟩, .string ⟨#[45, 45, 49]⟩]
set_option maxRecDepth 100000 in
theorem no_at (i : Nat) (hi : i < 16) : ∃ s : ByteArray, noC[i]? = some (.string s) ∧ numL s.data.toList = none ∧ s.size ≤ 100 := by
  rcases (show i = 0 ∨ i = 1 ∨ i = 2 ∨ i = 3 ∨ i = 4 ∨ i = 5 ∨ i = 6 ∨ i = 7 ∨ i = 8 ∨ i = 9 ∨ i = 10 ∨ i = 11 ∨ i = 12 ∨ i = 13 ∨ i = 14 ∨ i = 15 by omega) with rfl | rfl | rfl | rfl | rfl | rfl | rfl | rfl | rfl | rfl | rfl | rfl | rfl | rfl | rfl | rfl <;> exact ⟨_, rfl, by decide +kernel, by decide⟩
theorem many_code (n : Nat) (hn : n < 20) : codeL (List.replicate n 81) = (decide (1 ≤ n) && decide (n ≤ 12)) := by
  rcases (show n = 0 ∨ n = 1 ∨ n = 2 ∨ n = 3 ∨ n = 4 ∨ n = 5 ∨ n = 6 ∨ n = 7 ∨ n = 8 ∨ n = 9 ∨ n = 10 ∨ n = 11 ∨ n = 12 ∨ n = 13 ∨ n = 14 ∨ n = 15 ∨ n = 16 ∨ n = 17 ∨ n = 18 ∨ n = 19 by omega) with rfl | rfl | rfl | rfl | rfl | rfl | rfl | rfl | rfl | rfl | rfl | rfl | rfl | rfl | rfl | rfl | rfl | rfl | rfl | rfl <;> decide +kernel
set_option maxRecDepth 100000 in
set_option maxHeartbeats 1000000 in
theorem codeNumbers_any (w : World) (hv : VarsOk w) : Calls Tryz.prog 3 #[] w (OkNew w) := by
  have VK := Lib.hid hv
  have mixed : Tryz.prog.follows .mixedOrders = true := by kernel_rfl
  clear hv
  go_enter Tryz.func3, Tryz.ntmps3
  go_wp2_with fail
  go_loopw [1, 2] (fun i x wr => ∃ k : Nat, k ≤ 256 ∧ i = .int .i64 k ∧ Turned (fun _ => False) w wr) (fun i _ _ => 256 - (intOf i).toNat)
  case atStart => exact ⟨0, by omega, rfl, Turned.refl _ _⟩
  case round =>
    obtain ⟨k, hk, rfl, tk⟩ := hrel
    have Tk := Lib.hid tk
    clear tk
    by_cases hlt : k < 256
    · obtain ⟨K, hK⟩ : ∃ K : Int, K = (k : Int) := ⟨_, rfl⟩
      have hK0 : 0 ≤ K := by omega
      have hK1 : K < 256 := by omega
      have hKK := Lib.hid hK
      have hKb := Lib.hid (show isByte K from ⟨hK0, by omega⟩)
      rw [← hK]
      clear hK hlt hk
      have hcv := run_conv1 wr K
      have hs1 : (strOf1 K).size = 1 := rfl
      have hsA : ((⟨#[65]⟩ : ByteArray) ++ strOf1 K).size = 2 := by rw [ByteArray.size_append]; rfl
      have hsB : ((⟨#[65]⟩ : ByteArray) ++ strOf1 K ++ ⟨#[66]⟩).size = 3 := by rw [ByteArray.size_append, ByteArray.size_append]; rfl
      have hsD : ((⟨#[49]⟩ : ByteArray) ++ strOf1 K).size = 2 := by rw [ByteArray.size_append]; rfl
      go_wp2_with fail
      refine (codeTexts_any _ _ (VK.out.turned (Tk.out.alloc _)) (by rw [hs1]; unfold maxLen; omega)).mono ?_
      rintro e w1 ⟨rfl, t1⟩
      have T1 := Lib.hid ((Tk.out.alloc _).trans (W := fun _ => False) t1 (fun _ e => e) (fun _ e => e.elim))
      clear t1
      go_wp2_with fail
      clear Tk hcv
      refine (codeTexts_any _ _ (VK.out.turned T1.out) (by rw [hsA]; unfold maxLen; omega)).mono ?_
      rintro e w2 ⟨rfl, t2⟩
      have T2 := Lib.hid (T1.out.trans (W := fun _ => False) t2 (fun _ e => e) (fun _ e => e.elim))
      clear t2
      go_wp2_with fail
      clear T1
      refine (codeTexts_any _ _ (VK.out.turned T2.out) (by rw [hsB]; unfold maxLen; omega)).mono ?_
      rintro e w3 ⟨rfl, t3⟩
      have T3 := Lib.hid (T2.out.trans (W := fun _ => False) t3 (fun _ e => e) (fun _ e => e.elim))
      clear t3
      go_wp2_with fail
      clear T2
      refine (codeTexts_any _ _ (VK.out.turned T3.out) (by rw [hsD]; unfold maxLen; omega)).mono ?_
      rintro e w4 ⟨rfl, t4⟩
      have T4 := Lib.hid (T3.out.trans (W := fun _ => False) t4 (fun _ e => e) (fun _ e => e.elim))
      clear t4
      go_wp2_with fail
      clear T3
      refine (codeBytes_any _ 2 2 _ _ (VK.out.turned (T4.out.alloc _)) (lit_ok w4 #[.int .u8 1, .int .u8 K] [1, K] 2 rfl rfl (by omega) (by have := hKb.out; unfold isByte at this ⊢; simp; omega)) (by omega)).mono ?_
      rintro e w5 ⟨rfl, t5⟩
      have T5 := Lib.hid ((T4.out.alloc _).trans (W := fun _ => False) t5 (fun _ e => e) (fun _ e => e.elim))
      clear t5
      go_wp2_with fail
      clear T4
      refine (codeBytes_any _ 4 4 _ _ (VK.out.turned (T5.out.alloc _)) (lit_ok w5 #[.int .u8 2, .int .u8 65, .int .u8 K, .int .u8 66] [2, 65, K, 66] 4 rfl rfl (by omega) (by have := hKb.out; unfold isByte at this ⊢; simp; omega)) (by omega)).mono ?_
      rintro e w6 ⟨rfl, t6⟩
      have T6 := Lib.hid ((T5.out.alloc _).trans (W := fun _ => False) t6 (fun _ e => e) (fun _ e => e.elim))
      clear t6
      go_wp2_with fail
      clear T5
      refine (codeBytes_any _ 1 1 _ _ (VK.out.turned (T6.out.alloc _)) (lit_ok w6 #[.int .u8 K] [K] 1 rfl rfl (by omega) (by have := hKb.out; unfold isByte at this ⊢; simp; omega)) (by omega)).mono ?_
      rintro e w7 ⟨rfl, t7⟩
      have T7 := Lib.hid ((T6.out.alloc _).trans (W := fun _ => False) t7 (fun _ e => e) (fun _ e => e.elim))
      clear t7
      go_wp2_with fail
      clear T6
      refine (repeat_any 90 300 _ (by omega)).mono ?_
      rintro e w8 ⟨rfl, t8⟩
      have R8 := Lib.hid t8
      clear t8
      have hm300 := manyL_size 90 300
      generalize manyL 90 300 = M at *
      go_wp2_with (at_builtin; go_loud (refine wpList_app_strG bytT Tryz.underlying9 rfl (.tmp 67) (.tmp 68) rfl (base := w7.heap.size) (n := 1) (xs := [K]) (one_own w7 _ K R8.out) M (by omega) (by omega) (by have := R8.out.size; simp at this ⊢; omega) rfl rfl ?_; intro g cap w90 hr hg hgr; have T90 := Lib.hid (grown_fresh T7.out R8.out hgr); have R90 := Lib.hid hr; clear hr hg hgr))
      have hb90 := app_ok hKb.out R90.out
      rw [hm300] at hb90
      have hb90 : BytsOk w90 (some ⟨g, 0, none⟩) 301 cap ([K] ++ ints M.data.toList) := hb90
      refine (codeBytes_any _ _ _ _ _ (VK.out.turned T90.out) hb90 (by omega)).mono ?_
      rintro e w9 ⟨rfl, t9⟩
      have T9 := Lib.hid (T90.out.trans (W := fun _ => False) t9 (fun _ e => e) (fun _ e => e.elim))
      clear t9
      go_wp2_with fail
      go_roundw
      all_goals skip
      case rel =>
        have hKe : K + 1 = ((k + 1 : Nat) : Int) := by have := hKK.out; omega
        have hkl : k + 1 ≤ 256 := by have := hKK.out; omega
        first
        | exact ⟨k + 1, hkl, by rw [hKe], T9.out⟩
        | ((repeat apply Exists.intro); exact ⟨⟨k + 1, hkl, by rw [hKe], T9.out⟩, rfl⟩)
      case measure =>
        have := hKK.out
        simp [intOf] <;> omega
    · have hge : (256 : Int) ≤ (k : Int) := by omega
      obtain rfl : k = 256 := by omega
      go_wp2_with fail
      go_loopw [3, 4] (fun i x wr => ∃ k : Nat, k ≤ 20 ∧ i = .int .i64 k ∧ Turned (fun _ => False) w wr) (fun i _ _ => 20 - (intOf i).toNat)
      case atStart => exact ⟨0, by omega, rfl, Tk.out⟩
      case round =>
        clear Tk
        obtain ⟨k, hk, rfl, tk⟩ := hrel
        have Tk := Lib.hid tk
        clear tk
        by_cases hlt : k < 20
        · have hlti : (k : Int) < 20 := by omega
          have hKb := Lib.hid (show isByte (k : Int) from ⟨by omega, by omega⟩)
          have hmc := many_code k hlt
          rw [← manyL_list] at hmc
          have hms := manyL_size 81 k
          go_wp2_with fail
          refine (repeat_any 81 k _ (by omega)).mono ?_
          rintro e w10 ⟨rfl, t10⟩
          have T10 := Lib.hid (Tk.out.trans (W := fun _ => False) t10 (fun _ e => e) (fun _ e => e.elim))
          clear t10 Tk
          generalize manyL 81 k = M at *
          go_wp2_with fail
          rcases (show k = 0 ∨ (1 ≤ k ∧ k ≤ 12) ∨ 12 < k by omega) with hr | ⟨hr1, hr2⟩ | hr
          · skip
            subst hr
            obtain rfl : M = ⟨#[]⟩ := ba_empty hms
            have hcl : codeL ([] : List UInt8) = false := rfl
            have hmv : codeL (⟨#[]⟩ : ByteArray).data.toList = false := rfl
            have hrt := right_any ⟨#[]⟩ w10 (by decide)
            rw [hmv] at hrt
            have HR := Lib.hid hrt
            clear hrt hmc hmv
            go_wp2_with fail
            refine HR.out.mono ?_
            rintro e w11 ⟨rfl, t11⟩
            have T11 := Lib.hid (T10.out.trans (W := fun _ => False) t11 (fun _ e => e) (fun _ e => e.elim))
            clear t11 T10 HR
            go_wp2_with fail
            refine (codeTexts_any _ _ (VK.out.turned T11.out) (by decide)).mono ?_
            rintro e w12 ⟨rfl, t12⟩
            have T12 := Lib.hid (T11.out.trans (W := fun _ => False) t12 (fun _ e => e) (fun _ e => e.elim))
            clear t12
            clear T11
            go_wp2_with (at_builtin; go_loud (refine wpList_app_strG bytT Tryz.underlying9 rfl (.tmp 96) (.tmp 97) rfl (base := w12.heap.size) (n := 1) (xs := [0]) (one_own w12 _ _ (Turned.refl _ _)) ⟨#[]⟩ (by omega) (by decide) (by simp) rfl rfl ?_; intro g80 cap80 w80 hr80 hg80 hgr80; have T80 := Lib.hid (grown_fresh T12.out (Turned.refl _ _) hgr80); have R80 := Lib.hid hr80; clear hr80 hg80 hgr80))
            have hb80 : BytsOk w80 (some ⟨g80, 0, none⟩) 1 cap80 ([0] ++ ints (⟨#[]⟩ : ByteArray).data.toList) := app_ok (n := 0) (s := ⟨#[]⟩) (show isByte 0 from ⟨by omega, by omega⟩) R80.out
            refine (codeBytes_any _ _ _ _ _ (VK.out.turned T80.out) hb80 (by decide)).mono ?_
            rintro e w13 ⟨rfl, t13⟩
            have T13 := Lib.hid (T80.out.trans (W := fun _ => False) t13 (fun _ e => e) (fun _ e => e.elim))
            clear t13
            go_wp2_with fail
            go_roundw
            case rel =>
              first
              | exact ⟨1, by omega, by go_num, T13.out⟩
              | ((repeat apply Exists.intro); exact ⟨⟨1, by omega, by go_num, T13.out⟩, rfl⟩)
            case measure => simp [intOf] <;> omega
          · skip
            have hmv : codeL M.data.toList = true := by rw [hmc]; simp <;> omega
            have f1 : (1 : Int) ≤ (k : Int) := by omega
            have f0 : (0 : Int) < (k : Int) := by omega
            have fs : (1 : Int) ≤ (M.size : Int) := by omega
            have fs2 : 1 ≤ M.size := by omega
            have f2 : (k : Int) ≤ 12 := by omega
            have hrt := right_any M w10 (by rw [hms]; omega)
            rw [hmv] at hrt
            have HR := Lib.hid hrt
            clear hrt hmc hmv
            go_wp2_with fail
            refine HR.out.mono ?_
            rintro e w11 ⟨rfl, t11⟩
            have T11 := Lib.hid (T10.out.trans (W := fun _ => False) t11 (fun _ e => e) (fun _ e => e.elim))
            clear t11 T10 HR
            go_wp2_with fail
            refine (codeTexts_any _ _ (VK.out.turned T11.out) (by rw [hms]; unfold maxLen; omega)).mono ?_
            rintro e w12 ⟨rfl, t12⟩
            have T12 := Lib.hid (T11.out.trans (W := fun _ => False) t12 (fun _ e => e) (fun _ e => e.elim))
            clear t12
            clear T11
            go_wp2_with (at_builtin; go_loud (refine wpList_app_strG bytT Tryz.underlying9 rfl (.tmp 96) (.tmp 97) rfl (base := w12.heap.size) (n := 1) (xs := [(k : Int)]) (one_own w12 _ _ (Turned.refl _ _)) M (by omega) (by have := hms; first | omega | (have := hx; omega)) (by simp) rfl rfl ?_; intro g80 cap80 w80 hr80 hg80 hgr80; have T80 := Lib.hid (grown_fresh T12.out (Turned.refl _ _) hgr80); have R80 := Lib.hid hr80; clear hr80 hg80 hgr80))
            have hb80 := app_ok hKb.out R80.out
            rw [hms] at hb80
            refine (codeBytes_any _ _ _ _ _ (VK.out.turned T80.out) hb80 (by omega)).mono ?_
            rintro e w13 ⟨rfl, t13⟩
            have T13 := Lib.hid (T80.out.trans (W := fun _ => False) t13 (fun _ e => e) (fun _ e => e.elim))
            clear t13
            have hx : (M.extract 1 k).size = k - 1 := by rw [ByteArray.size_extract, hms]; omega
            go_wp2_with (at_builtin; go_loud (refine wpList_app_strG bytT Tryz.underlying9 rfl (.tmp 108) (.tmp 110) rfl (base := w13.heap.size) (n := 1) (xs := [(k : Int)]) (one_own w13 _ _ (Turned.refl _ _)) _ (by omega) (by have := hms; first | omega | (have := hx; omega)) (by simp) rfl rfl ?_; intro g81 cap81 w81 hr81 hg81 hgr81; have T81 := Lib.hid (grown_fresh T13.out (Turned.refl _ _) hgr81); have R81 := Lib.hid hr81; clear hr81 hg81 hgr81))
            have hb81 := app_ok hKb.out R81.out
            have e81 : 1 + (M.extract 1 k).size = k := by omega
            rw [e81] at hb81
            refine (codeBytes_any _ _ _ _ _ (VK.out.turned T81.out) hb81 (by omega)).mono ?_
            rintro e w14 ⟨rfl, t14⟩
            have T14 := Lib.hid (T81.out.trans (W := fun _ => False) t14 (fun _ e => e) (fun _ e => e.elim))
            clear t14
            go_wp2_with fail
            go_roundw
            case rel =>
              first
              | exact ⟨k + 1, by omega, by go_num, T14.out⟩
              | ((repeat apply Exists.intro); exact ⟨⟨k + 1, by omega, by go_num, T14.out⟩, rfl⟩)
            case measure => simp [intOf] <;> omega
          · skip
            have hmv : codeL M.data.toList = false := by rw [hmc]; simp <;> omega
            have f1 : (1 : Int) ≤ (k : Int) := by omega
            have f0 : (0 : Int) < (k : Int) := by omega
            have fs : (1 : Int) ≤ (M.size : Int) := by omega
            have fs2 : 1 ≤ M.size := by omega
            have hr1 : 1 ≤ k := by omega
            have f2 : decide ((k : Int) ≤ 12) = false := by simp <;> omega
            have f3 : (12 : Int) < (k : Int) := by omega
            have hrt := right_any M w10 (by rw [hms]; omega)
            rw [hmv] at hrt
            have HR := Lib.hid hrt
            clear hrt hmc hmv
            go_wp2_with fail
            refine HR.out.mono ?_
            rintro e w11 ⟨rfl, t11⟩
            have T11 := Lib.hid (T10.out.trans (W := fun _ => False) t11 (fun _ e => e) (fun _ e => e.elim))
            clear t11 T10 HR
            go_wp2_with fail
            refine (codeTexts_any _ _ (VK.out.turned T11.out) (by rw [hms]; unfold maxLen; omega)).mono ?_
            rintro e w12 ⟨rfl, t12⟩
            have T12 := Lib.hid (T11.out.trans (W := fun _ => False) t12 (fun _ e => e) (fun _ e => e.elim))
            clear t12
            clear T11
            go_wp2_with (at_builtin; go_loud (refine wpList_app_strG bytT Tryz.underlying9 rfl (.tmp 96) (.tmp 97) rfl (base := w12.heap.size) (n := 1) (xs := [(k : Int)]) (one_own w12 _ _ (Turned.refl _ _)) M (by omega) (by have := hms; first | omega | (have := hx; omega)) (by simp) rfl rfl ?_; intro g80 cap80 w80 hr80 hg80 hgr80; have T80 := Lib.hid (grown_fresh T12.out (Turned.refl _ _) hgr80); have R80 := Lib.hid hr80; clear hr80 hg80 hgr80))
            have hb80 := app_ok hKb.out R80.out
            rw [hms] at hb80
            refine (codeBytes_any _ _ _ _ _ (VK.out.turned T80.out) hb80 (by omega)).mono ?_
            rintro e w13 ⟨rfl, t13⟩
            have T13 := Lib.hid (T80.out.trans (W := fun _ => False) t13 (fun _ e => e) (fun _ e => e.elim))
            clear t13
            have hx : (M.extract 1 k).size = k - 1 := by rw [ByteArray.size_extract, hms]; omega
            go_wp2_with (at_builtin; go_loud (refine wpList_app_strG bytT Tryz.underlying9 rfl (.tmp 108) (.tmp 110) rfl (base := w13.heap.size) (n := 1) (xs := [(k : Int)]) (one_own w13 _ _ (Turned.refl _ _)) _ (by omega) (by have := hms; first | omega | (have := hx; omega)) (by simp) rfl rfl ?_; intro g81 cap81 w81 hr81 hg81 hgr81; have T81 := Lib.hid (grown_fresh T13.out (Turned.refl _ _) hgr81); have R81 := Lib.hid hr81; clear hr81 hg81 hgr81))
            have hb81 := app_ok hKb.out R81.out
            have e81 : 1 + (M.extract 1 k).size = k := by omega
            rw [e81] at hb81
            refine (codeBytes_any _ _ _ _ _ (VK.out.turned T81.out) hb81 (by omega)).mono ?_
            rintro e w14 ⟨rfl, t14⟩
            have T14 := Lib.hid (T81.out.trans (W := fun _ => False) t14 (fun _ e => e) (fun _ e => e.elim))
            clear t14
            go_wp2_with fail
            go_roundw
            case rel =>
              first
              | exact ⟨k + 1, by omega, by go_num, T14.out⟩
              | ((repeat apply Exists.intro); exact ⟨⟨k + 1, by omega, by go_num, T14.out⟩, rfl⟩)
            case measure => simp [intOf] <;> omega
        · have hge : (20 : Int) ≤ (k : Int) := by omega
          obtain rfl : k = 20 := by omega
          go_wp2_with fail
          have B0 := Lib.hid (Blk.new wr 2 numsC)
          have T0 := Lib.hid (Tk.out.alloc (.cells numsC 2))
          unfold numsC at B0 T0
          generalize wr.alloc (.cells #[.int .i64 (-9223372036854775808), .int .i64 (-9223372036854775807), .int .i64 (-10), .int .i64 (-1), .int .i64 0, .int .i64 1, .int .i64 9, .int .i64 10, .int .i64 9223372036854775807] 2) = w0 at *
          generalize wr.heap.size = g at *
          clear Tk
          go_loopw [6, 7, 8] (fun i _ _ wr => ∃ k : Nat, k ≤ 9 ∧ i = .int .i64 k ∧ Turned (fun _ => False) w0 wr) (fun i _ _ _ => 9 - (intOf i).toNat)
          case atStart => exact ⟨0, by omega, rfl, Turned.refl _ _⟩
          case round =>
            obtain ⟨k, hk, rfl, tk⟩ := hrel
            have Tk := Lib.hid tk
            clear tk
            by_cases hlt : k < 9
            · have hlti : (k : Int) < 9 := by omega
              obtain ⟨v, hv1, hv2⟩ := nums_at k hlt
              have x := (B0.out.turned Tk.out (fun e => e)).cell k
              have hx : wr.cell? ⟨g, k, none⟩ = some (.int .i64 v) := x.trans hv1
              have TT := Lib.hid (T0.out.trans (W := fun _ => False) Tk.out (fun _ e => e) (fun _ e => e.elim))
              have HT := Lib.hid (fun (w' : World) (h : VarsOk w') => text_any v w' h hv2)
              have HU := Lib.hid (fun (w' : World) => rtext_any v w' hv2)
              have HN := Lib.hid (fun (w' : World) (h : VarsOk w') => num_text v w' h hv2)
              unfold StrNew at HT HU
              generalize (⟨(Lib.itoa v).toArray⟩ : ByteArray) = S at HT HU HN
              clear x hv1 hv2
              go_wp2_with fail
              refine (HT.out _ (VK.out.turned TT.out)).mono ?_
              rintro e w1 ⟨rfl, t1⟩
              have T1 := Lib.hid (Tk.out.trans (W := fun _ => False) t1 (fun _ e => e) (fun _ e => e.elim))
              have hx := cell_turned t1 hx (fun e => e)
              clear t1 Tk TT
              go_wp2_with fail
              refine (HN.out _ (VK.out.turned (T0.out.trans (W := fun _ => False) T1.out (fun _ e => e) (fun _ e => e.elim)))).mono ?_
              rintro e w2 ⟨rfl, t2⟩
              have T2 := Lib.hid (T1.out.trans (W := fun _ => False) t2 (fun _ e => e) (fun _ e => e.elim))
              have hx := cell_turned t2 hx (fun e => e)
              clear t2 T1 HN
              go_wp2_with fail
              refine wp_region_tr (fun w' => w'.cell? ⟨g, k, none⟩ = some (.int .i64 v)) (trT [0, 1, 2, 3, 4, 5, 6, 7, 8, 9, 10, 11, 12, 13, 14, 16, 17, 18, 19] (.run 15 (.run 20 (trT [21, 22] .nil)))) mixed (by kernel_rfl) (fun _ _ _ _ _ h => h) ?_
              simp only [trT, List.foldr_cons, List.foldr_nil, Tr.map, List.getElem?_cons_zero, List.getElem?_cons_succ]
              have hS : w2.drew.cell? ⟨g, k, none⟩ = some (.int .i64 v) := hx
              have T3 := Lib.hid T2.out.drew
              generalize w2.drew = w3 at *
              (refine tr_take (v := ?_) hS rfl (fun w' hw => ?_) ?_; rotate_left; (focus (go_simp; (try with_reducible rfl); done)); try simp only [Act.put, List.setIfInBounds_toArray, List.set_cons_zero, List.set_cons_succ])
              (refine tr_take (v := ?_) hS rfl (fun w' hw => ?_) ?_; rotate_left; (focus (go_simp; (try with_reducible rfl); done)); try simp only [Act.put, List.setIfInBounds_toArray, List.set_cons_zero, List.set_cons_succ])
              (refine tr_take (v := ?_) hS rfl (fun w' hw => ?_) ?_; rotate_left; (focus (go_simp; (try with_reducible rfl); done)); try simp only [Act.put, List.setIfInBounds_toArray, List.set_cons_zero, List.set_cons_succ])
              (refine tr_take (v := ?_) hS rfl (fun w' hw => ?_) ?_; rotate_left; (focus (go_simp; (try with_reducible rfl); done)); try simp only [Act.put, List.setIfInBounds_toArray, List.set_cons_zero, List.set_cons_succ])
              (refine tr_take (v := ?_) hS rfl (fun w' hw => ?_) ?_; rotate_left; (focus (go_simp; (try with_reducible rfl); done)); try simp only [Act.put, List.setIfInBounds_toArray, List.set_cons_zero, List.set_cons_succ])
              (refine tr_take (v := ?_) hS rfl (fun w' hw => ?_) ?_; rotate_left; (focus (go_simp; (try with_reducible rfl); done)); try simp only [Act.put, List.setIfInBounds_toArray, List.set_cons_zero, List.set_cons_succ])
              (refine tr_take (v := ?_) hS rfl (fun w' hw => ?_) ?_; rotate_left; (focus (go_simp; (try with_reducible rfl); done)); try simp only [Act.put, List.setIfInBounds_toArray, List.set_cons_zero, List.set_cons_succ])
              (refine tr_take (v := ?_) hS rfl (fun w' hw => ?_) ?_; rotate_left; (focus (go_simp; (try with_reducible rfl); done)); try simp only [Act.put, List.setIfInBounds_toArray, List.set_cons_zero, List.set_cons_succ])
              (refine tr_take (v := ?_) hS rfl (fun w' hw => ?_) ?_; rotate_left; (focus (go_simp; (try with_reducible rfl); done)); try simp only [Act.put, List.setIfInBounds_toArray, List.set_cons_zero, List.set_cons_succ])
              (refine tr_take (v := ?_) hS rfl (fun w' hw => ?_) ?_; rotate_left; (focus (go_simp; (try with_reducible rfl); done)); try simp only [Act.put, List.setIfInBounds_toArray, List.set_cons_zero, List.set_cons_succ])
              (refine tr_take (v := ?_) hS rfl (fun w' hw => ?_) ?_; rotate_left; (focus (go_simp; (try with_reducible rfl); done)); try simp only [Act.put, List.setIfInBounds_toArray, List.set_cons_zero, List.set_cons_succ])
              (refine tr_take (v := ?_) hS rfl (fun w' hw => ?_) ?_; rotate_left; (focus (go_simp; (try with_reducible rfl); done)); try simp only [Act.put, List.setIfInBounds_toArray, List.set_cons_zero, List.set_cons_succ])
              (refine tr_take (v := ?_) hS rfl (fun w' hw => ?_) ?_; rotate_left; (focus (go_simp; (try with_reducible rfl); done)); try simp only [Act.put, List.setIfInBounds_toArray, List.set_cons_zero, List.set_cons_succ])
              (refine tr_take (v := ?_) hS rfl (fun w' hw => ?_) ?_; rotate_left; (focus (go_simp; (try with_reducible rfl); done)); try simp only [Act.put, List.setIfInBounds_toArray, List.set_cons_zero, List.set_cons_succ])
              (refine tr_take (v := ?_) hS rfl (fun w' hw => ?_) ?_; rotate_left; (focus (go_simp; (try with_reducible rfl); done)); try simp only [Act.put, List.setIfInBounds_toArray, List.set_cons_zero, List.set_cons_succ])
              (refine tr_take (v := ?_) hS rfl (fun w' hw => ?_) ?_; rotate_left; (focus (go_simp; (try with_reducible rfl); done)); try simp only [Act.put, List.setIfInBounds_toArray, List.set_cons_zero, List.set_cons_succ])
              (refine tr_take (v := ?_) hS rfl (fun w' hw => ?_) ?_; rotate_left; (focus (go_simp; (try with_reducible rfl); done)); try simp only [Act.put, List.setIfInBounds_toArray, List.set_cons_zero, List.set_cons_succ])
              (refine tr_take (v := ?_) hS rfl (fun w' hw => ?_) ?_; rotate_left; (focus (go_simp; (try with_reducible rfl); done)); try simp only [Act.put, List.setIfInBounds_toArray, List.set_cons_zero, List.set_cons_succ])
              (refine tr_take (v := ?_) hS rfl (fun w' hw => ?_) ?_; rotate_left; (focus (go_simp; (try with_reducible rfl); done)); try simp only [Act.put, List.setIfInBounds_toArray, List.set_cons_zero, List.set_cons_succ])
              refine tr_run rfl (fun K hK => ?_)
              · skip
                go_simp
                refine (HT.out _ (VK.out.turned (T0.out.trans (W := fun _ => False) T3.out (fun _ e => e) (fun _ e => e.elim)))).mono ?_
                rintro e w4 ⟨rfl, t4⟩
                have Uw4 := Lib.hid (T3.out.trans (W := fun _ => False) t4 (fun _ e => e) (fun _ e => e.elim))
                have hS := cell_turned t4 hS (fun e => e)
                clear t4
                refine hK.out _ _ hS ?_
                clear hK K
                try simp only [Act.put, List.setIfInBounds_toArray, List.set_cons_zero, List.set_cons_succ]
                refine tr_run rfl (fun K hK => ?_)
                go_simp
                refine (HU.out _ ).mono ?_
                rintro e w5 ⟨rfl, t5⟩
                have Uw5 := Lib.hid (Uw4.out.trans (W := fun _ => False) t5 (fun _ e => e) (fun _ e => e.elim))
                have hS := cell_turned t5 hS (fun e => e)
                clear t5
                refine hK.out _ _ hS ?_
                clear hK K
                try simp only [Act.put, List.setIfInBounds_toArray, List.set_cons_zero, List.set_cons_succ]
                (refine tr_take (v := ?_) hS rfl (fun w' hw => ?_) ?_; rotate_left; (focus (go_simp; (try with_reducible rfl); done)); try simp only [Act.put, List.setIfInBounds_toArray, List.set_cons_zero, List.set_cons_succ])
                (refine tr_take (v := ?_) hS rfl (fun w' hw => ?_) ?_; rotate_left; (focus (go_simp; (try with_reducible rfl); done)); try simp only [Act.put, List.setIfInBounds_toArray, List.set_cons_zero, List.set_cons_succ])
                refine tr_nil ?_
                clear hS
                go_wp2_with fail
                go_roundw
                case rel =>
                  first
                  | exact ⟨k + 1, by omega, by go_num, Uw5.out⟩
                  | ((repeat apply Exists.intro); exact ⟨⟨k + 1, by omega, by go_num, Uw5.out⟩, rfl⟩)
                case measure => simp [intOf] <;> omega
            · have hge : (9 : Int) ≤ (k : Int) := by omega
              obtain rfl : k = 9 := by omega
              have TT := Lib.hid (T0.out.trans (W := fun _ => False) Tk.out (fun _ e => e) (fun _ e => e.elim))
              clear T0 B0
              go_wp2_with fail
              have B0 := Lib.hid (Blk.new wr 9 noC)
              have T0 := Lib.hid (TT.out.alloc (.cells noC 9))
              unfold noC at B0 T0
              generalize wr.alloc (.cells #[.string ⟨#[]⟩, .string ⟨#[45]⟩, .string ⟨#[45, 48]⟩, .string ⟨#[48, 48]⟩, .string ⟨#[48, 49]⟩, .string ⟨#[45, 48, 49]⟩, .string ⟨#[43, 49]⟩, .string ⟨#[49, 32]⟩, .string ⟨#[32, 49]⟩, .string ⟨#[49, 97]⟩, .string ⟨#[57, 50, 50, 51, 51, 55, 50, 48, 51, 54, 56, 53, 52, 55, 55, 53, 56, 48, 56]⟩, .string ⟨#[45, 57, 50, 50, 51, 51, 55, 50, 48, 51, 54, 56, 53, 52, 55, 55, 53, 56, 48, 57]⟩, .string ⟨#[49, 48, 48, 48, 48, 48, 48, 48, 48, 48, 48, 48, 48, 48, 48, 48, 48, 48, 48, 48]⟩, .string ⟨#[48, 120, 49]⟩, .string ⟨#[49, 46, 48]⟩, .string ⟨#[45, 45, 49]⟩] 9) = w0 at *
              generalize wr.heap.size = g at *
              clear TT
              go_loopw [10, 11, 12] (fun i _ _ wr => ∃ k : Nat, k ≤ 16 ∧ i = .int .i64 k ∧ Turned (fun _ => False) w0 wr) (fun i _ _ _ => 16 - (intOf i).toNat)
              case atStart => exact ⟨0, by omega, rfl, Turned.refl _ _⟩
              case round =>
                obtain ⟨k, hk, rfl, tk⟩ := hrel
                have Tk := Lib.hid tk
                clear tk
                have TT := Lib.hid (T0.out.trans (W := fun _ => False) Tk.out (fun _ e => e) (fun _ e => e.elim))
                by_cases hlt : k < 16
                · have hlti : (k : Int) < 16 := by omega
                  obtain ⟨s, hv1, hv2, hv3⟩ := no_at k hlt
                  have x := (B0.out.turned Tk.out (fun e => e)).cell k
                  have hx : wr.cell? ⟨g, k, none⟩ = some (.string s) := x.trans hv1
                  have HN := Lib.hid (number_any s wr (VK.out.turned TT.out) (by omega))
                  unfold NumPost at HN
                  rw [hv2] at HN
                  clear x hv1 hv2 hv3
                  go_wp2_with fail
                  refine HN.out.mono ?_
                  rintro e w2 ⟨rfl, t2⟩
                  have T2 := Lib.hid (Tk.out.trans (W := fun _ => False) t2 (fun _ e => e) (fun _ e => e.elim))
                  clear t2 Tk HN hx
                  simp only [Option.getD_none, Option.isSome_none]
                  go_wp2_with fail
                  go_roundw
                  case rel =>
                    first
                    | exact ⟨k + 1, by omega, by go_num, T2.out⟩
                    | ((repeat apply Exists.intro); exact ⟨⟨k + 1, by omega, by go_num, T2.out⟩, rfl⟩)
                  case measure => simp [intOf] <;> omega
                · have hge : (16 : Int) ≤ (k : Int) := by omega
                  obtain rfl : k = 16 := by omega
                  go_wp2_with fail
                  refine (awake03_any _ (VK.out.turned TT.out)).mono ?_
                  rintro e w2 ⟨rfl, t2⟩
                  have T2 := Lib.hid (TT.out.trans (W := fun _ => False) t2 (fun _ e => e) (fun _ e => e.elim))
                  clear t2
                  go_wp2_with fail
                  go_ret
                  exact ⟨rfl, T2.out⟩
end Go.Proofs.YtgglkcikimmhfaaGreatDoor
