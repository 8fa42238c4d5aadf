/-
  storemanlaw31.LinesBlanks: the walk. Conditions: the library's variables, ask.kinds and lines.verbs hold what their initialisers lay.
-/
import Derived.Test.YtglojnmcbochaaaGreatDoorQAw3
namespace Go.Proofs.YtglojnmcbochaaaGreatDoor
open Go.RowKit Go.Maps
set_option linter.unusedVariables false
set_option linter.unusedSimpArgs false

/-! plain -/
theorem ba_app (a b : ByteArray) : (a ++ b).data.toList = a.data.toList ++ b.data.toList := by rw [ByteArray.data_append]; simp
theorem wideL_len (l : List UInt8) : (wideL l).length ≤ 3 * l.length := by
  induction l with
  | nil => exact Nat.le_refl _
  | cons c l ih =>
    rw [wideL_cons, List.length_append, List.length_cons]
    split <;> simp only [List.length_cons, List.length_nil] <;> omega
theorem lineRes_cases (l : List UInt8) (h : l.length ≤ 1048576) : (stepL l = none ∧ lineRes l = (StepV.zero, 310)) ∨ ∃ x, stepL l = some x ∧ lineRes l = (x, 0) := by
  unfold lineRes
  rw [if_neg (by omega)]
  cases stepL l with
  | none => exact .inl ⟨rfl, rfl⟩
  | some x => exact .inr ⟨x, rfl, rfl⟩
theorem lineRes_wide (l : List UInt8) (h : l.length ≤ 10000) : lineRes ([32, 32, 32] ++ wideL l ++ [32, 32]) = lineRes l := by
  have := wideL_len l
  unfold lineRes
  rw [stepL_wide, if_neg (by simp only [List.length_append, List.length_cons, List.length_nil]; omega), if_neg (by omega)]
theorem lineRes_fate (l : List UInt8) (x : StepV) (hl : l.length ≤ 10000) (h : lineRes l = (x, 0)) (hk : x.kind = 5) : lineRes (l ++ [32, 53]) = ({ x with fates := x.fates ++ [5] }, 0) := by
  rcases lineRes_cases l (by omega) with ⟨_, h2⟩ | ⟨y, h1, h2⟩
  · rw [h2] at h
    injection h with _ h
    cases h
  · rw [h2] at h
    injection h with h _
    subst h
    unfold lineRes
    rw [stepL_fate h1 hk, if_neg (by simp only [List.length_append, List.length_cons, List.length_nil]; omega)]
theorem lb_fin {l : List UInt8} {x : StepV} {er : Int} (h : (stepL l = none ∧ (x, er) = (StepV.zero, 310)) ∨ ∃ y, stepL l = some y ∧ (x, er) = (y, 0)) (hc : ¬ (er = 0 ∧ x.kind = 5)) : er = 310 ∨ (er = 0 ∧ x.kind ≠ 5) := by
  rcases h with ⟨_, h⟩ | ⟨y, _, h⟩
  · injection h with _ h
    exact .inl h
  · injection h with _ h
    exact .inr ⟨h, fun e => hc ⟨h, e⟩⟩
theorem lb_ext (s : ByteArray) (k : Nat) (h : k < s.size) : (s.extract k (k + 1)).data.toList = [s[k]'h] := by
  rw [Lib.extract_data]
  have h2 : k < s.data.toList.length := by rw [← Lib.size_eq]; exact h
  rw [show k + 1 - k = 1 by omega, List.drop_eq_getElem_cons h2]
  rfl
theorem lb_step (s : ByteArray) (k : Nat) (h : k < s.size) : wideL (s.data.toList.take (k + 1)) = wideL (s.data.toList.take k) ++ (if s[k]'h = 32 then [32, 32, 32] else [s[k]'h]) := by
  have h2 : k < s.data.toList.length := by rw [← Lib.size_eq]; exact h
  rw [List.take_succ_eq_append_getElem h2, wideL_append, wideL_cons]
  have e : s.data.toList[k]'h2 = s[k]'h := rfl
  rw [e]
  show _ ++ (_ ++ wideL []) = _
  rw [show wideL [] = [] from rfl, List.append_nil]
def LbRel (s : ByteArray) (v i : Value) : Prop := ∃ (k : Nat) (wd : ByteArray), k ≤ s.size ∧ i = .int .i64 k ∧ v = .string wd ∧ wd.data.toList = wideL (s.data.toList.take k)
set_option maxRecDepth 100000 in
set_option maxHeartbeats 8000000 in
theorem linesBlanks_walk (s : ByteArray) (w : World) (hv : VarsOk w) (hK : KindsOk w) (hV : VerbsOk w) : Calls Tryz.prog 6 #[.string s] w (OkNew w) := by
  have hA := Lib.hid (awake31_any w hv hK hV)
  have hl := Lib.hid (fun (w' : World) (s' : ByteArray) (hs : s'.size ≤ 9223372036854775807) (t : Turned (fun _ => False) w w') => line_any s' w' (hv.turned t) (hK.fresh t) (hV.fresh t) hs)
  clear hv hK hV
  go_enter Tryz.func6, Tryz.ntmps6
  go_wp2_with fail
  refine hA.out.mono ?_
  rintro e w1 ⟨rfl, t1⟩
  have T1 := Lib.hid t1
  clear t1 hA
  by_cases hbig : 10000 < s.size
  · have hbi : (10000 : Int) < (s.size : Int) := by omega
    go_wp2_with fail
    go_ret
    exact ⟨rfl, T1.out⟩
  have hbi : ¬ (10000 : Int) < (s.size : Int) := by omega
  have hsz : s.size ≤ 10000 := by omega
  have hln := Lib.hid (show s.data.toList.length ≤ 10000 by rw [← Lib.size_eq]; exact hsz)
  have hres := Lib.hid (lineRes_cases s.data.toList (by have := hln.out; omega))
  have hwd := Lib.hid (lineRes_wide s.data.toList hln.out)
  have hft := Lib.hid (fun x h hk => lineRes_fate s.data.toList x hln.out h hk)
  clear hbig
  obtain ⟨LR, hLR0⟩ : ∃ LR, lineRes s.data.toList = LR := ⟨_, rfl⟩
  have hLR := Lib.hid hLR0
  rw [hLR0] at hres hwd hft
  clear hLR0
  obtain ⟨⟨kd, ss, nm, ⟨kind, request, item, qty, day, days, rank, lot, line, parts, others⟩, fates⟩, er⟩ := LR
  have hX := Lib.hid hres.out
  clear hres
  go_wp2_with fail
  refine (hl.out _ s (by omega) T1.out).mono ?_
  rintro e w2 ⟨S2, F2, rfl, ho, hok, t2⟩
  have T2 := Lib.hid (T1.out.and_ t2)
  have I2 := Lib.hid ho.is
  rw [hLR.out] at I2 ⊢
  clear ho hok t2 T1
  obtain ⟨⟨PA, Pn, Pc⟩, ⟨OA, On, Oc⟩⟩ := S2
  obtain ⟨FA, Fn, Fc⟩ := F2
  unfold stpC strV
  simp only
  go_upto_region 6 with fail
  have t3 := (Turned.refl (fun _ => False) w2).alloc (.cells #[.int .u8 kd, .int .i64 ss, .int .i64 nm, .int .u8 kind, .int .i64 request, .string ⟨item.toArray⟩, .int .i64 qty, .int .i64 day, .int .i64 days, .int .i64 rank, .int .i64 lot, .int .i64 line, .slice PA Pn Pc, .slice OA On Oc, .slice FA Fn Fc] 31)
  have BX := Lib.hid (Blk.new w2 31 #[.int .u8 kd, .int .i64 ss, .int .i64 nm, .int .u8 kind, .int .i64 request, .string ⟨item.toArray⟩, .int .i64 qty, .int .i64 day, .int .i64 days, .int .i64 rank, .int .i64 lot, .int .i64 line, .slice PA Pn Pc, .slice OA On Oc, .slice FA Fn Fc])
  have T3 := Lib.hid (T2.out.and_ t3)
  obtain ⟨w3, hw3⟩ : ∃ w3, w3 = w2.alloc (.cells #[.int .u8 kd, .int .i64 ss, .int .i64 nm, .int .u8 kind, .int .i64 request, .string ⟨item.toArray⟩, .int .i64 qty, .int .i64 day, .int .i64 days, .int .i64 rank, .int .i64 lot, .int .i64 line, .slice PA Pn Pc, .slice OA On Oc, .slice FA Fn Fc] 31) := ⟨_, rfl⟩
  rw [← hw3] at BX T3 t3 ⊢
  clear hw3 T2
  generalize w2.heap.size = b2 at *
  have I3 := Lib.hid (I2.out.fresh t3)
  clear I2 t3
  go_wp2_with fail
  go_loop [5, 6] (fun v i => LbRel s v i) (fun _ i => s.size - (intOf i).toNat)
  case atStart => exact ⟨0, ⟨#[]⟩, Nat.zero_le _, rfl, rfl, rfl⟩
  case round =>
    obtain ⟨k, wd, hk, rfl, rfl, hwl0⟩ := hrel
    have hwl := Lib.hid hwl0
    clear hwl0
    have hwsz := Lib.hid (show wd.size ≤ 30000 from by rw [Lib.size_eq, hwl.out]; have := wideL_len (s.data.toList.take k); rw [List.length_take] at this; have := hln.out; omega)
    have hws2 := hwsz.out
    by_cases hlt : k < s.size
    · have hji : (k : Int) < (s.size : Int) := by omega
      have hki : (k : Int) + 1 ≤ (s.size : Int) := by omega
      have hk0 : (0 : Int) ≤ (k : Int) + 1 := by omega
      have hes := Lib.hid (lb_step s k hlt)
      have hex : (s.extract k (k + 1)).size ≤ 1 := by rw [ByteArray.size_extract]; omega
      by_cases h3 : s[k]'hlt = 32
      · have h32 : (((s[k]'hlt).toNat : Int) == 32) = true := by rw [h3]; rfl
        have h3h := Lib.hid h3
        clear h3
        go_wp2_with fail
        go_round
        case rel => exact ⟨k + 1, _, hlt, by go_num, rfl, by rw [ba_app, ba_app, lb_ext s k hlt, h3h.out, hwl.out, hes.out, if_pos h3h.out]; simp⟩
        case measure => simp [intOf] <;> omega
      · have h32 : (((s[k]'hlt).toNat : Int) == 32) = false := beq_eq_false_iff_ne.2 (fun e => h3 (UInt8.toNat_inj.1 (show (s[k]'hlt).toNat = 32 by omega)))
        have h3h := Lib.hid h3
        clear h3
        go_wp2_with fail
        go_round
        case rel => exact ⟨k + 1, _, hlt, by go_num, rfl, by rw [ba_app, lb_ext s k hlt, hwl.out, hes.out, if_neg h3h.out]⟩
        case measure => simp [intOf] <;> omega
    · have hge : (s.size : Int) ≤ (k : Int) := by omega
      have hke : k = s.size := by omega
      have hwl2 := Lib.hid (show wd.data.toList = wideL s.data.toList from by rw [hwl.out, List.take_of_length_le (by rw [← Lib.size_eq]; omega)])
      clear hwl hke
      have e1 := Lib.hid (show ((⟨#[32, 32, 32]⟩ : ByteArray) ++ wd ++ ⟨#[32, 32]⟩).data.toList = [32, 32, 32] ++ wideL s.data.toList ++ [32, 32] from by rw [ba_app, ba_app, hwl2.out])
      have z0 : (⟨#[32, 32, 32]⟩ : ByteArray).size = 3 := rfl
      have z1 : (⟨#[32, 32]⟩ : ByteArray).size = 2 := rfl
      have z2 : ((⟨#[32, 32, 32]⟩ : ByteArray) ++ wd).size = 3 + wd.size := by rw [ByteArray.size_append]; rfl
      have e2 := Lib.hid (show ((⟨#[32, 32, 32]⟩ : ByteArray) ++ wd ++ ⟨#[32, 32]⟩).size ≤ 9223372036854775807 from by rw [ByteArray.size_append, z2, z1]; omega)
      go_wp2_with fail
      refine (hl.out _ _ e2.out T3.out).mono ?_
      rintro e w4 ⟨S4, F4, rfl, ho, hok, t4⟩
      have T4 := Lib.hid (T3.out.and_ t4)
      have I4 := Lib.hid ho.is
      rw [e1.out, hwd.out] at I4 ⊢
      have I3 := Lib.hid (I3.out.fresh t4)
      have BX := Lib.hid (BX.out.turned t4 (fun e => e))
      clear ho hok t4 T3 e1 e2 z0 z1 z2
      obtain ⟨⟨UA, Un, Uc⟩, ⟨VA, Vn, Vc⟩⟩ := S4
      obtain ⟨GA, Gn, Gc⟩ := F4
      unfold stpC strV
      simp only
      go_upto_region 14 with fail
      have t5 := (Turned.refl (fun _ => False) w4).alloc (.cells #[.int .u8 kd, .int .i64 ss, .int .i64 nm, .int .u8 kind, .int .i64 request, .string ⟨item.toArray⟩, .int .i64 qty, .int .i64 day, .int .i64 days, .int .i64 rank, .int .i64 lot, .int .i64 line, .slice UA Un Uc, .slice VA Vn Vc, .slice GA Gn Gc] 31)
      have BY := Lib.hid (Blk.new w4 31 #[.int .u8 kd, .int .i64 ss, .int .i64 nm, .int .u8 kind, .int .i64 request, .string ⟨item.toArray⟩, .int .i64 qty, .int .i64 day, .int .i64 days, .int .i64 rank, .int .i64 lot, .int .i64 line, .slice UA Un Uc, .slice VA Vn Vc, .slice GA Gn Gc])
      have T5 := Lib.hid (T4.out.and_ t5)
      obtain ⟨w5, hw5⟩ : ∃ w5, w5 = w4.alloc (.cells #[.int .u8 kd, .int .i64 ss, .int .i64 nm, .int .u8 kind, .int .i64 request, .string ⟨item.toArray⟩, .int .i64 qty, .int .i64 day, .int .i64 days, .int .i64 rank, .int .i64 lot, .int .i64 line, .slice UA Un Uc, .slice VA Vn Vc, .slice GA Gn Gc] 31) := ⟨_, rfl⟩
      rw [← hw5] at BY T5 t5 ⊢
      clear hw5 T4
      generalize w4.heap.size = b4 at *
      have I3 := Lib.hid (I3.out.fresh t5)
      have I5 := Lib.hid (I4.out.fresh t5)
      have BX := Lib.hid (BX.out.turned t5 (fun e => e))
      clear I4 t5
      obtain ⟨c0, c1, c2, c3, c4, c5, c6, c7, c8, c9, c10, c11, c12, c13, c14⟩ := BX.out.cells15
      obtain ⟨d0, d1, d2, d3, d4, d5, d6, d7, d8, d9, d10, d11, d12, d13, d14⟩ := BY.out.cells15
      have HS := Lib.hid (sameS_any ⟨kd, ss, nm, ⟨kind, request, item, qty, day, days, rank, lot, line, parts, others⟩, fates⟩ ⟨⟨PA, Pn, Pc⟩, ⟨OA, On, Oc⟩⟩ ⟨⟨UA, Un, Uc⟩, ⟨VA, Vn, Vc⟩⟩ ⟨FA, Fn, Fc⟩ ⟨GA, Gn, Gc⟩ w5 I3.out I5.out)
      unfold stpC strV at HS
      simp only at HS
      have hee : (er != er) = false := by simp
      go_wp2_with fail
      refine HS.out.mono ?_
      rintro e w6 ⟨rfl, t6⟩
      have T6 := Lib.hid (T5.out.and_ t6)
      have I6 := Lib.hid (I3.out.fresh t6)
      have BX6 := Lib.hid (BX.out.turned t6 (fun e => e))
      clear t6 HS BX BY I3 I5 T5 c0 c1 c2 c3 c4 c5 c6 c7 c8 c9 c10 c11 c12 c13 c14 d0 d1 d2 d3 d4 d5 d6 d7 d8 d9 d10 d11 d12 d13 d14 hee
      have e1 := Lib.hid (show (s ++ (⟨#[32, 53]⟩ : ByteArray)).data.toList = s.data.toList ++ [32, 53] from by rw [ba_app])
      have z1 : (⟨#[32, 53]⟩ : ByteArray).size = 2 := rfl
      have e2 := Lib.hid (show (s ++ (⟨#[32, 53]⟩ : ByteArray)).size ≤ 9223372036854775807 from by rw [ByteArray.size_append, z1]; omega)
      go_wp2_with fail
      refine (hl.out _ _ e2.out T6.out).mono ?_
      rintro e w7 ⟨S7, F7, rfl, ho, hok, t7⟩
      have T7 := Lib.hid (T6.out.and_ t7)
      have I7 := Lib.hid ho.is
      have I6 := Lib.hid (I6.out.fresh t7)
      have BX7 := Lib.hid (BX6.out.turned t7 (fun e => e))
      rw [e1.out] at I7 ⊢
      clear ho hok t7 T6 e1 e2 z1 BX6
      by_cases hcr : er = 0 ∧ kd = 5
      · obtain ⟨rfl, rfl⟩ := hcr
        have hz := hft.out _ rfl rfl
        rw [hz] at I7 ⊢
        clear hz hft hX
        obtain ⟨⟨UA, Un, Uc⟩, ⟨VA, Vn, Vc⟩⟩ := S7
        obtain ⟨GA, Gn, Gc⟩ := F7
        have hl7 := I7.out.fates.len
        have hl6 := I6.out.fates.len
        have hle7 := I7.out.fates.le
        have hmx7 := I7.out.fates.max
        unfold maxLen at hmx7
        simp only [List.length_append, List.length_cons, List.length_nil] at hl7 hl6 hle7 hmx7
        obtain rfl : Gn = Fn + 1 := by omega
        obtain ⟨bf, of, hA, hc⟩ := I7.out.fates.cells (show 0 < Fn + 1 by omega)
        simp only at hA hc
        subst hA
        have q0 := hc Fn (by omega)
        have q5 : (fates ++ [5]).getD Fn 0 = 5 := by rw [← hl6]; simp [List.getD_eq_getElem?_getD]
        rw [q5] at q0
        clear hc q5 hl7 hl6
        unfold stpC strV
        simp only
        go_upto_region 17 with fail
        have t8 := (Turned.refl (fun _ => False) w7).alloc (.cells #[.int .u8 5, .int .i64 ss, .int .i64 nm, .int .u8 kind, .int .i64 request, .string ⟨item.toArray⟩, .int .i64 qty, .int .i64 day, .int .i64 days, .int .i64 rank, .int .i64 lot, .int .i64 line, .slice UA Un Uc, .slice VA Vn Vc, .slice (some ⟨bf, of, none⟩) (Fn + 1) Gc] 31)
        have BZ := Lib.hid (Blk.new w7 31 #[.int .u8 5, .int .i64 ss, .int .i64 nm, .int .u8 kind, .int .i64 request, .string ⟨item.toArray⟩, .int .i64 qty, .int .i64 day, .int .i64 days, .int .i64 rank, .int .i64 lot, .int .i64 line, .slice UA Un Uc, .slice VA Vn Vc, .slice (some ⟨bf, of, none⟩) (Fn + 1) Gc])
        have T8 := Lib.hid (T7.out.and_ t8)
        obtain ⟨w8, hw8⟩ : ∃ w8, w8 = w7.alloc (.cells #[.int .u8 5, .int .i64 ss, .int .i64 nm, .int .u8 kind, .int .i64 request, .string ⟨item.toArray⟩, .int .i64 qty, .int .i64 day, .int .i64 days, .int .i64 rank, .int .i64 lot, .int .i64 line, .slice UA Un Uc, .slice VA Vn Vc, .slice (some ⟨bf, of, none⟩) (Fn + 1) Gc] 31) := ⟨_, rfl⟩
        rw [← hw8] at BZ T8 t8 ⊢
        clear hw8 T7
        generalize w7.heap.size = b7 at *
        have BX8 := Lib.hid (BX7.out.turned t8 (fun e => e))
        have q8 : w8.cell? ⟨bf, of + Fn, none⟩ = some (.int .i64 5) := cell_turned t8 q0 (fun e => e)
        clear q0 t8 BX7 I6 I7
        obtain ⟨c0, c1, c2, c3, c4, c5, c6, c7, c8, c9, c10, c11, c12, c13, c14⟩ := BX8.out.cells15
        obtain ⟨d0, d1, d2, d3, d4, d5, d6, d7, d8, d9, d10, d11, d12, d13, d14⟩ := BZ.out.cells15
        go_wp2_with fail
        go_ret
        exact ⟨rfl, T8.out⟩
      · have hfin := Lib.hid (lb_fin hX.out hcr)
        clear hcr
        generalize lineRes (s.data.toList ++ [32, 53]) = L7 at *
        obtain ⟨⟨kd7, ss7, nm7, ⟨kind7, request7, item7, qty7, day7, days7, rank7, lot7, line7, parts7, others7⟩, fates7⟩, er7⟩ := L7
        obtain ⟨⟨UA, Un, Uc⟩, ⟨VA, Vn, Vc⟩⟩ := S7
        obtain ⟨GA, Gn, Gc⟩ := F7
        unfold stpC strV
        simp only
        go_upto_region 17 with fail
        clear I7 I6 hft hX
        have t8 := (Turned.refl (fun _ => False) w7).alloc (.cells #[.int .u8 kd7, .int .i64 ss7, .int .i64 nm7, .int .u8 kind7, .int .i64 request7, .string ⟨item7.toArray⟩, .int .i64 qty7, .int .i64 day7, .int .i64 days7, .int .i64 rank7, .int .i64 lot7, .int .i64 line7, .slice UA Un Uc, .slice VA Vn Vc, .slice GA Gn Gc] 31)
        have BZ := Lib.hid (Blk.new w7 31 #[.int .u8 kd7, .int .i64 ss7, .int .i64 nm7, .int .u8 kind7, .int .i64 request7, .string ⟨item7.toArray⟩, .int .i64 qty7, .int .i64 day7, .int .i64 days7, .int .i64 rank7, .int .i64 lot7, .int .i64 line7, .slice UA Un Uc, .slice VA Vn Vc, .slice GA Gn Gc])
        have T8 := Lib.hid (T7.out.and_ t8)
        obtain ⟨w8, hw8⟩ : ∃ w8, w8 = w7.alloc (.cells #[.int .u8 kd7, .int .i64 ss7, .int .i64 nm7, .int .u8 kind7, .int .i64 request7, .string ⟨item7.toArray⟩, .int .i64 qty7, .int .i64 day7, .int .i64 days7, .int .i64 rank7, .int .i64 lot7, .int .i64 line7, .slice UA Un Uc, .slice VA Vn Vc, .slice GA Gn Gc] 31) := ⟨_, rfl⟩
        rw [← hw8] at BZ T8 t8 ⊢
        clear hw8 T7
        generalize w7.heap.size = b7 at *
        have BX8 := Lib.hid (BX7.out.turned t8 (fun e => e))
        clear t8 BX7
        obtain ⟨c0, c1, c2, c3, c4, c5, c6, c7, c8, c9, c10, c11, c12, c13, c14⟩ := BX8.out.cells15
        rcases hfin.out with hf | ⟨hf1, hf2⟩
        · have g1 : (er != 0) = true := by rw [hf]; rfl
          have g2 : (er == 0) = false := by rw [hf]; rfl
          have g3 : (er == 310) = true := by rw [hf]; rfl
          have hfh := Lib.hid hf
          clear hf
          go_wp2_with fail
          go_ret
          exact ⟨rfl, T8.out⟩
        · have g1 : (er != 0) = false := by rw [hf1]; rfl
          have g2 : (er == 0) = true := by rw [hf1]; rfl
          have g4 : (kd != 5) = true := by simp [hf2]
          have hfh := Lib.hid hf1
          have hfh2 := Lib.hid hf2
          clear hf1 hf2
          go_wp2_with fail
          go_ret
          exact ⟨rfl, T8.out⟩
theorem linesBlanks_any (s : ByteArray) (w : World) (h : LnVars w) : Calls Tryz.prog 6 #[.string s] w (OkNew w) := linesBlanks_walk s w h.vars h.kinds h.verbs
end Go.Proofs.YtglojnmcbochaaaGreatDoor

