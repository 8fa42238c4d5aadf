/-
  storemanlaw31.LinesBack: the walk. Conditions: the library's variables, ask.kinds and lines.verbs hold what their initialisers lay; lists are within one allocation.
-/
import Derived.Test.YtglojnmcbochaaaGreatDoorRLbl
import Derived.Test.YtglojnmcbochaaaGreatDoorROpB
namespace Go.Proofs.YtglojnmcbochaaaGreatDoor
open Go.RowKit Go.Maps
set_option linter.unusedVariables false
set_option linter.unusedSimpArgs false

theorem Blk.range {w : World} {g : Nat} {t : TypeId} {cs : Array Value} (h : Blk w g t cs) : w.rangeAt g 0 cs.toList := fun j v hv => by
  rw [Nat.zero_add, h.cell]
  simpa using hv
theorem great_parts {t : TaleV} (h : greatT t = false) : t.ask.parts.length ≤ 1000000 := by
  unfold greatT at h
  simp only [Bool.or_eq_false_iff, decide_eq_false_iff_not] at h
  omega
theorem told_back (s : Int) (a : AskV) : toldL ⟨1, 1, s, a, TellV.zero⟩ = [49, 32, 97, 115, 107, 115, 32] ++ (Lib.itoa s ++ each32 (asksW a)) := by
  have e : toldW ⟨1, 1, s, a, TellV.zero⟩ = Lib.itoa (1 : Nat) :: [97, 115, 107, 115] :: Lib.itoa s :: asksW a := rfl
  unfold toldL
  rw [e, join32, itoa_one (by decide)]
  show [UInt8.ofNat (48 + 1)] ++ each32 ([97, 115, 107, 115] :: Lib.itoa s :: asksW a) = _
  rw [each32_cons, each32_cons]
  rfl
theorem AskV.Ok.ask64 {a : AskV} (h : a.Ok) : ask64 a := ⟨h.request, h.lot, h.line⟩
theorem back_res {s : Int} {a : AskV} {l : List UInt8} (h0 : 0 ≤ s) (h1 : s < 4) (ho : a.Ok) (hl : l = [32, 32, 97, 115, 107, 32, 32] ++ (Lib.itoa s ++ each32 (asksW a)) ++ [32]) (hz : l.length ≤ 1048576) : lineRes l = (if rightA a then (⟨1, s, 0, a, []⟩, 0) else (StepV.zero, 310)) := by
  have hb := back_plain s ⟨h0, h1⟩ a ho.ask64
  unfold lineRes
  rw [if_neg (by omega), hl, hb]
  cases rightA a <;> rfl
theorem ba_ext {a b : ByteArray} (h : a.data.toList = b.data.toList) : a = b := by
  obtain ⟨⟨a⟩⟩ := a
  obtain ⟨⟨b⟩⟩ := b
  simp only at h
  rw [h]
theorem byte_at {s : ByteArray} {P : UInt8 → Prop} (h : ∀ c ∈ s.data.toList, P c) : ∀ k, (hk : k < s.size) → P (s[k]'hk) := fun k hk => h _ (by
  have h2 : k < s.data.toList.length := by rw [← Lib.size_eq]; exact hk
  exact List.getElem_mem h2)
set_option maxRecDepth 100000 in
set_option maxHeartbeats 16000000 in
theorem linesBack_any (a : AskV) (SA : AskS) (ses0 : Int) (t : TaleV) (SY : AskS) (ST : TellS) (w : World) (hv0 : LnVars w) (hA0 : AskIs w a SA) (hoA0 : a.Ok) (hfA : AskFew a) (hs : I64 ses0) (hY0 : AskIs w t.ask SY) (hT0 : TellIs w t.tell ST) (hoT0 : t.Ok) (hfY : AskFew t.ask) (hfT : TellFew t.tell) :
    Calls Tryz.prog 5 #[.agg (askC a SA), .int .i64 ses0, .agg (taleC t SY ST)] w (OkNew w) := by
  have hAw := Lib.hid (fun (W : World) (d : Turned (fun _ => False) w W) => awake31_any W (hv0.vars.turned d) (hv0.kinds.fresh d) (hv0.verbs.fresh d))
  have hG1 := Lib.hid (fun (W : World) (d : Turned (fun _ => False) w W) => great31_any t SY ST W (hY0.fresh d) (hT0.fresh d) hfY hfT)
  have hG2 := Lib.hid (fun (W : World) (d : Turned (fun _ => False) w W) => great31_any ⟨0, 0, 0, a, TellV.zero⟩ SA TellS.nil W (hA0.fresh d) (TellIs.nil W _ rfl rfl) hfA ⟨Nat.zero_le _, Nat.zero_le _, Nat.zero_le _⟩)
  have hL := Lib.hid (fun (w' : World) (s' : ByteArray) (hs : s'.size ≤ 9223372036854775807) (t : Turned (fun _ => False) w w') => line_any s' w' (hv0.vars.turned t) (hv0.kinds.fresh t) (hv0.verbs.fresh t) hs)
  obtain ⟨hs1, hs2⟩ := hs
  have hP1 := Lib.hid (fun h => great_parts (t := t) h)
  have hP2 := Lib.hid (fun h => great_parts (t := ⟨0, 0, 0, a, TellV.zero⟩) h)
  generalize greatT t = g1 at hG1 hP1
  generalize greatT ⟨0, 0, 0, a, TellV.zero⟩ = g2 at hG2 hP2
  obtain ⟨xk, xr, xi, xq, xd, xl, xa, xt, xn, xp, xo⟩ := a
  obtain ⟨⟨PA, Pn, Pc⟩, ⟨QA, Qn, Qc⟩⟩ := SA
  obtain ⟨tk, at_, ses, ⟨yk, yr, yi, yq, yd, yl, ya, yt, yn, yp, yo⟩, ⟨er, id, ty, cd, st, lots, uses⟩⟩ := t
  obtain ⟨⟨MA, Mn, Mc⟩, ⟨NA, Nn, Nc⟩⟩ := SY
  obtain ⟨⟨LA, Ln, Lc⟩, ⟨UA, Un, Uc⟩⟩ := ST
  have hv := Lib.hid hv0
  have hA := Lib.hid hA0
  have hoA := Lib.hid hoA0
  have hY := Lib.hid hY0
  have hTI := Lib.hid hT0
  have hoT := Lib.hid hoT0
  clear hv0 hA0 hoA0 hfA hY0 hT0 hoT0 hfY hfT
  unfold taleC strV at hG1
  unfold taleC TellS.nil Sl.nil strV at hG2
  unfold taleC askC strV
  simp only [TellV.zero] at hG1 hG2 ⊢
  go_enter Tryz.func5, Tryz.ntmps5
  go_upto_region 1 with fail
  have d0 := (Turned.refl (fun _ => False) w).alloc (.cells #[.int .u8 xk, .int .i64 xr, .string ⟨xi.toArray⟩, .int .i64 xq, .int .i64 xd, .int .i64 xl, .int .i64 xa, .int .i64 xt, .int .i64 xn, .slice PA Pn Pc, .slice QA Qn Qc] 28)
  have d1 := (Turned.refl (fun _ => False) (w.alloc (.cells #[.int .u8 xk, .int .i64 xr, .string ⟨xi.toArray⟩, .int .i64 xq, .int .i64 xd, .int .i64 xl, .int .i64 xa, .int .i64 xt, .int .i64 xn, .slice PA Pn Pc, .slice QA Qn Qc] 28))).alloc (.cells #[.int .u8 tk, .int .i64 at_, .int .i64 ses, .int .u8 yk, .int .i64 yr, .string ⟨yi.toArray⟩, .int .i64 yq, .int .i64 yd, .int .i64 yl, .int .i64 ya, .int .i64 yt, .int .i64 yn, .slice MA Mn Mc, .slice NA Nn Nc, .int .i64 er, .int .i64 id, .int .i64 ty, .string ⟨cd.toArray⟩, .int .u8 st, .slice LA Ln Lc, .slice UA Un Uc] 44)
  have BA := Lib.hid ((Blk.new w 28 #[.int .u8 xk, .int .i64 xr, .string ⟨xi.toArray⟩, .int .i64 xq, .int .i64 xd, .int .i64 xl, .int .i64 xa, .int .i64 xt, .int .i64 xn, .slice PA Pn Pc, .slice QA Qn Qc]).turned d1 (fun e => e))
  have BB := Lib.hid (Blk.new_at (k := w.heap.size + 1) (w.alloc (.cells #[.int .u8 xk, .int .i64 xr, .string ⟨xi.toArray⟩, .int .i64 xq, .int .i64 xd, .int .i64 xl, .int .i64 xa, .int .i64 xt, .int .i64 xn, .slice PA Pn Pc, .slice QA Qn Qc] 28)) 44 #[.int .u8 tk, .int .i64 at_, .int .i64 ses, .int .u8 yk, .int .i64 yr, .string ⟨yi.toArray⟩, .int .i64 yq, .int .i64 yd, .int .i64 yl, .int .i64 ya, .int .i64 yt, .int .i64 yn, .slice MA Mn Mc, .slice NA Nn Nc, .int .i64 er, .int .i64 id, .int .i64 ty, .string ⟨cd.toArray⟩, .int .u8 st, .slice LA Ln Lc, .slice UA Un Uc] (by simp))
  have D0 := Lib.hid (d0.and_ d1)
  obtain ⟨v0, hv0⟩ : ∃ v0, v0 = (w.alloc (.cells #[.int .u8 xk, .int .i64 xr, .string ⟨xi.toArray⟩, .int .i64 xq, .int .i64 xd, .int .i64 xl, .int .i64 xa, .int .i64 xt, .int .i64 xn, .slice PA Pn Pc, .slice QA Qn Qc] 28)).alloc (.cells #[.int .u8 tk, .int .i64 at_, .int .i64 ses, .int .u8 yk, .int .i64 yr, .string ⟨yi.toArray⟩, .int .i64 yq, .int .i64 yd, .int .i64 yl, .int .i64 ya, .int .i64 yt, .int .i64 yn, .slice MA Mn Mc, .slice NA Nn Nc, .int .i64 er, .int .i64 id, .int .i64 ty, .string ⟨cd.toArray⟩, .int .u8 st, .slice LA Ln Lc, .slice UA Un Uc] 44) := ⟨_, rfl⟩
  rw [← hv0] at BA BB D0 ⊢
  clear hv0 d0 d1
  generalize w.heap.size + 1 = bb at *
  generalize w.heap.size = ba at *
  obtain ⟨a0, a1, a2, a3, a4, a5, a6, a7, a8, a9, a10⟩ := BA.out.cells11
  go_wp2_with fail
  refine (hAw.out _ D0.out).mono ?_
  rintro e v1 ⟨rfl, d1⟩
  have D1 := Lib.hid (D0.out.and_ d1)
  have BA := Lib.hid (BA.out.turned d1 (fun e => e))
  have BB := Lib.hid (BB.out.turned d1 (fun e => e))
  clear d1 D0 a0 a1 a2 a3 a4 a5 a6 a7 a8 a9 a10
  obtain ⟨a0, a1, a2, a3, a4, a5, a6, a7, a8, a9, a10⟩ := BA.out.cells11
  clear hAw
  have hrg := BB.out.range
  go_wp2_with (refine wpList_load_mid rfl 44 _ rfl bb 0 rfl [.int .u8 tk, .int .i64 at_, .int .i64 ses, .int .u8 yk, .int .i64 yr, .string ⟨yi.toArray⟩, .int .i64 yq, .int .i64 yd, .int .i64 yl, .int .i64 ya, .int .i64 yt, .int .i64 yn, .slice MA Mn Mc, .slice NA Nn Nc, .int .i64 er, .int .i64 id, .int .i64 ty, .string ⟨cd.toArray⟩, .int .u8 st, .slice LA Ln Lc, .slice UA Un Uc] _ hrg Tryz.underlying44 rfl (by kernel_rfl) ?_; clear hrg)
  refine (hG1.out _ D1.out).mono ?_
  rintro e v2 ⟨rfl, d2⟩
  have D2 := Lib.hid (D1.out.and_ d2)
  have BA := Lib.hid (BA.out.turned d2 (fun e => e))
  have BB := Lib.hid (BB.out.turned d2 (fun e => e))
  clear d2 D1 a0 a1 a2 a3 a4 a5 a6 a7 a8 a9 a10
  obtain ⟨a0, a1, a2, a3, a4, a5, a6, a7, a8, a9, a10⟩ := BA.out.cells11
  clear hG1
  cases g1 with
  | true =>
    go_wp2_with fail
    go_ret
    exact ⟨rfl, D2.out⟩
  | false =>
    go_wp2_with fail
    refine (hG2.out _ D2.out).mono ?_
    rintro e v3 ⟨rfl, d3⟩
    have D3 := Lib.hid (D2.out.and_ d3)
    have BA := Lib.hid (BA.out.turned d3 (fun e => e))
    have BB := Lib.hid (BB.out.turned d3 (fun e => e))
    clear d3 D2 a0 a1 a2 a3 a4 a5 a6 a7 a8 a9 a10
    obtain ⟨a0, a1, a2, a3, a4, a5, a6, a7, a8, a9, a10⟩ := BA.out.cells11
    clear hG2
    cases g2 with
    | true =>
      go_wp2_with fail
      go_ret
      exact ⟨rfl, D3.out⟩
    | false =>
      have hP := Lib.hid (hP2.out (by simp))
      have hPy := Lib.hid (hP1.out (by simp))
      clear hP1 hP2
      go_wp2_with fail
      refine (pick_any ses0 4 _ (by omega) (by omega) hs1 hs2).mono ?_
      rintro e v4 ⟨rfl, rfl⟩
      have hse : 0 ≤ ses0 % 4 ∧ ses0 % 4 < 4 := by omega
      generalize ses0 % 4 = se at *
      have hTl := Lib.hid (told_back se ⟨xk, xr, xi, xq, xd, xl, xa, xt, xn, xp, xo⟩)
      have hok9 := Lib.hid (show TaleV.Ok ⟨1, 1, se, ⟨xk, xr, xi, xq, xd, xl, xa, xt, xn, xp, xo⟩, TellV.zero⟩ from ⟨(show isByte (1 : Int) by unfold isByte; decide), (show I64 (1 : Int) by unfold I64; decide), (show I64 se by unfold I64; omega), hoA.out, TellV.Ok.zero⟩)
      have hlen9 := Lib.hid (show (toldL ⟨1, 1, se, ⟨xk, xr, xi, xq, xd, xl, xa, xt, xn, xp, xo⟩, TellV.zero⟩).length ≤ 300000 from told_len hok9.out)
      have hby9 := Lib.hid (told_bytes ⟨1, 1, se, ⟨xk, xr, xi, xq, xd, xl, xa, xt, xn, xp, xo⟩, TellV.zero⟩)
      have hT1 := Lib.hid (fun W (t : Turned (fun _ => False) w W) => ltell_any ⟨1, 1, se, ⟨xk, xr, xi, xq, xd, xl, xa, xt, xn, xp, xo⟩, TellV.zero⟩ ⟨⟨PA, Pn, Pc⟩, ⟨QA, Qn, Qc⟩⟩ TellS.nil W (hv.out.vars.turned t) (hv.out.kinds.fresh t) (hv.out.verbs.fresh t) (hA.out.fresh t) (TellIs.nil W _ rfl rfl) hok9.out hP.out)
      generalize toldL ⟨1, 1, se, ⟨xk, xr, xi, xq, xd, xl, xa, xt, xn, xp, xo⟩, TellV.zero⟩ = tl9 at hT1 hTl hlen9 hby9
      clear hok9
      unfold taleC TellV.zero TellS.nil Sl.nil strV at hT1
      simp only at hT1
      go_wp2_with fail
      refine (hT1.out _ D3.out).mono ?_
      rintro e v4 ⟨rfl, d4⟩
      have D4 := Lib.hid (D3.out.and_ d4)
      have BA := Lib.hid (BA.out.turned d4 (fun e => e))
      have BB := Lib.hid (BB.out.turned d4 (fun e => e))
      clear d4 D3 a0 a1 a2 a3 a4 a5 a6 a7 a8 a9 a10
      obtain ⟨a0, a1, a2, a3, a4, a5, a6, a7, a8, a9, a10⟩ := BA.out.cells11
      clear hT1
      have hl9 : tl9.length ≤ 300000 := hlen9.out
      have hl9b : 7 ≤ tl9.length := by rw [hTl.out, List.length_append]; simp only [List.length_cons]; omega
      obtain ⟨str, hstr0⟩ : ∃ str : ByteArray, str = ⟨tl9.toArray⟩ := ⟨_, rfl⟩
      have hsd := Lib.hid (show str.data.toList = tl9 from by rw [hstr0])
      have hss : str.size ≤ 300000 := by rw [hstr0]; simpa [ByteArray.size] using hl9
      have hss7 : 7 ≤ str.size := by rw [hstr0]; simpa [ByteArray.size] using hl9b
      rw [← hstr0]
      clear hstr0 hl9 hl9b
      obtain ⟨rest, hrest0⟩ : ∃ rest, rest = Lib.itoa se ++ each32 (asksW ⟨xk, xr, xi, xq, xd, xl, xa, xt, xn, xp, xo⟩) := ⟨_, rfl⟩
      have hsr := Lib.hid (show str.data.toList = [49, 32, 97, 115, 107, 115, 32] ++ rest from by rw [hsd.out, hTl.out, hrest0])
      have hrest := Lib.hid hrest0
      clear hrest0
      have hx1 : str.extract 0 7 = ⟨#[49, 32, 97, 115, 107, 115, 32]⟩ := ba_ext (by rw [Lib.extract_data, hsr.out]; rfl)
      obtain ⟨rs, hrs⟩ : ∃ rs, str.extract 7 str.size = rs := ⟨_, rfl⟩
      have hrd := Lib.hid (show rs.data.toList = rest from by rw [← hrs, Lib.extract_data, hsr.out, Lib.size_eq, hsr.out]; exact List.take_of_length_le (by simp))
      have hrz : rs.size ≤ 300000 := by rw [← hrs, ByteArray.size_extract]; omega
      have hs7i : (7 : Int) ≤ (str.size : Int) := by omega
      have hns : ¬ (str.size : Int) < 7 := by omega
      have z0 : (⟨#[32, 32, 97, 115, 107, 32, 32]⟩ : ByteArray).size = 7 := rfl
      have z1 : (⟨#[32]⟩ : ByteArray).size = 1 := rfl
      have z2 : ((⟨#[32, 32, 97, 115, 107, 32, 32]⟩ : ByteArray) ++ rs).size = 7 + rs.size := by rw [ByteArray.size_append]; rfl
      have e2 := Lib.hid (show ((⟨#[32, 32, 97, 115, 107, 32, 32]⟩ : ByteArray) ++ rs ++ ⟨#[32]⟩).size ≤ 9223372036854775807 from by rw [ByteArray.size_append, z2, z1]; omega)
      have hLR := Lib.hid (back_res (l := ((⟨#[32, 32, 97, 115, 107, 32, 32]⟩ : ByteArray) ++ rs ++ ⟨#[32]⟩).data.toList) hse.1 hse.2 hoA.out (by rw [ba_app, ba_app, hrd.out, hrest.out]) (by rw [← Lib.size_eq, ByteArray.size_append, z2, z1]; omega))
      go_wp2_with fail
      refine (hL.out _ _ e2.out D4.out).mono ?_
      rintro e v5 ⟨S5, F5, rfl, ho5, hok5, d5⟩
      have D5 := Lib.hid (D4.out.and_ d5)
      have BA := Lib.hid (BA.out.turned d5 (fun e => e))
      have BB := Lib.hid (BB.out.turned d5 (fun e => e))
      have I5 := Lib.hid ho5.is
      rw [hLR.out] at I5 ⊢
      clear ho5 hok5 d5 D4 z0 z1 z2 e2 hx1 hrs hs7i hns hL hLR hrd hsr hrest a0 a1 a2 a3 a4 a5 a6 a7 a8 a9 a10
      cases hr : rightA ⟨xk, xr, xi, xq, xd, xl, xa, xt, xn, xp, xo⟩ with
      | false =>
        have hrh := Lib.hid hr
        obtain ⟨⟨GA, Gn, Gc⟩, ⟨HA, Hn, Hc⟩⟩ := S5
        obtain ⟨FA, Fn, Fc⟩ := F5
        have I5 := Lib.hid (show StpIs v5 StepV.zero ⟨⟨GA, Gn, Gc⟩, ⟨HA, Hn, Hc⟩⟩ ⟨FA, Fn, Fc⟩ from by have := I5.out; rw [hr] at this; exact this)
        clear hr
        simp only [if_true, Bool.false_eq_true, if_false]
        unfold stpC strV StepV.zero AskV.zero
        simp only
        go_upto_region 11 with fail
        have d6 := (Turned.refl (fun _ => False) v5).alloc (.cells #[.int .u8 0, .int .i64 0, .int .i64 0, .int .u8 0, .int .i64 0, .string ⟨[].toArray⟩, .int .i64 0, .int .i64 0, .int .i64 0, .int .i64 0, .int .i64 0, .int .i64 0, .slice GA Gn Gc, .slice HA Hn Hc, .slice FA Fn Fc] 31)
        have BX := Lib.hid (Blk.new v5 31 #[.int .u8 0, .int .i64 0, .int .i64 0, .int .u8 0, .int .i64 0, .string ⟨[].toArray⟩, .int .i64 0, .int .i64 0, .int .i64 0, .int .i64 0, .int .i64 0, .int .i64 0, .slice GA Gn Gc, .slice HA Hn Hc, .slice FA Fn Fc])
        obtain ⟨v6, hv6⟩ : ∃ v6, v6 = v5.alloc (.cells #[.int .u8 0, .int .i64 0, .int .i64 0, .int .u8 0, .int .i64 0, .string ⟨[].toArray⟩, .int .i64 0, .int .i64 0, .int .i64 0, .int .i64 0, .int .i64 0, .int .i64 0, .slice GA Gn Gc, .slice HA Hn Hc, .slice FA Fn Fc] 31) := ⟨_, rfl⟩
        rw [← hv6] at BX d6 ⊢
        clear hv6
        have D6 := Lib.hid (D5.out.and_ d6)
        have BA := Lib.hid (BA.out.turned d6 (fun e => e))
        have BB := Lib.hid (BB.out.turned d6 (fun e => e))
        have I6 := Lib.hid (I5.out.fresh d6)
        clear d6 D5 I5
        generalize v5.heap.size = bx at *
        obtain ⟨a0, a1, a2, a3, a4, a5, a6, a7, a8, a9, a10⟩ := BA.out.cells11
        have hR := Lib.hid (ask_right_any ⟨xk, xr, xi, xq, xd, xl, xa, xt, xn, xp, xo⟩ ⟨⟨PA, Pn, Pc⟩, ⟨QA, Qn, Qc⟩⟩ v6 (hA.out.fresh D6.out) hoA.out (hv.out.kinds.fresh D6.out) hP.out)
        unfold askC strV at hR
        simp only at hR
        go_wp2_with fail
        refine hR.out.mono ?_
        rintro e v7 ⟨rfl, d7⟩
        rw [hrh.out]
        have D7 := Lib.hid (D6.out.and_ d7)
        have BA := Lib.hid (BA.out.turned d7 (fun e => e))
        have BB := Lib.hid (BB.out.turned d7 (fun e => e))
        have BX := Lib.hid (BX.out.turned d7 (fun e => e))
        have I7 := Lib.hid (I6.out.fresh d7)
        clear d7 D6 I6 hR a0 a1 a2 a3 a4 a5 a6 a7 a8 a9 a10
        obtain ⟨a0, a1, a2, a3, a4, a5, a6, a7, a8, a9, a10⟩ := BA.out.cells11
        obtain ⟨c0, c1, c2, c3, c4, c5, c6, c7, c8, c9, c10, c11, c12, c13, c14⟩ := BX.out.cells15
        go_upto_region 13 with fail
        clear c0 c1 c2 c3 c4 c5 c6 c7 c8 c9 c10 c11 c12 c13 c14
        have hby2 := Lib.hid (told_bytes ⟨tk, at_, ses, ⟨yk, yr, yi, yq, yd, yl, ya, yt, yn, yp, yo⟩, ⟨er, id, ty, cd, st, lots, uses⟩⟩)
        have hl2 := Lib.hid (show (toldL ⟨tk, at_, ses, ⟨yk, yr, yi, yq, yd, yl, ya, yt, yn, yp, yo⟩, ⟨er, id, ty, cd, st, lots, uses⟩⟩).length ≤ 300000 from told_len hoT.out)
        have hT2 := Lib.hid (fun W (t : Turned (fun _ => False) w W) => ltell_any ⟨tk, at_, ses, ⟨yk, yr, yi, yq, yd, yl, ya, yt, yn, yp, yo⟩, ⟨er, id, ty, cd, st, lots, uses⟩⟩ ⟨⟨MA, Mn, Mc⟩, ⟨NA, Nn, Nc⟩⟩ ⟨⟨LA, Ln, Lc⟩, ⟨UA, Un, Uc⟩⟩ W (hv.out.vars.turned t) (hv.out.kinds.fresh t) (hv.out.verbs.fresh t) (hY.out.fresh t) (hTI.out.fresh t) hoT.out hPy.out)
        unfold taleC strV at hT2
        simp only at hT2
        have hrg := BB.out.range
        go_wp2_with (refine wpList_load_mid rfl 44 _ rfl bb 0 rfl [.int .u8 tk, .int .i64 at_, .int .i64 ses, .int .u8 yk, .int .i64 yr, .string ⟨yi.toArray⟩, .int .i64 yq, .int .i64 yd, .int .i64 yl, .int .i64 ya, .int .i64 yt, .int .i64 yn, .slice MA Mn Mc, .slice NA Nn Nc, .int .i64 er, .int .i64 id, .int .i64 ty, .string ⟨cd.toArray⟩, .int .u8 st, .slice LA Ln Lc, .slice UA Un Uc] _ hrg Tryz.underlying44 rfl (by kernel_rfl) ?_; clear hrg)
        refine (hT2.out _ D7.out).mono ?_
        rintro e v8 ⟨rfl, d8⟩
        have D8 := Lib.hid (D7.out.and_ d8)
        clear d8 D7 hT2 a0 a1 a2 a3 a4 a5 a6 a7 a8 a9 a10
        obtain ⟨s2, hs20⟩ : ∃ s2 : ByteArray, s2 = ⟨(toldL ⟨tk, at_, ses, ⟨yk, yr, yi, yq, yd, yl, ya, yt, yn, yp, yo⟩, ⟨er, id, ty, cd, st, lots, uses⟩⟩).toArray⟩ := ⟨_, rfl⟩
        have h2d := Lib.hid (show s2.data.toList = toldL ⟨tk, at_, ses, ⟨yk, yr, yi, yq, yd, yl, ya, yt, yn, yp, yo⟩, ⟨er, id, ty, cd, st, lots, uses⟩⟩ from by rw [hs20])
        have h2s : s2.size ≤ 300000 := by rw [hs20]; simpa [ByteArray.size] using hl2.out
        rw [← hs20]
        clear hs20
        have hbz : (str ++ s2).size ≤ 600000 := by rw [ByteArray.size_append]; omega
        have hbb := Lib.hid (show ∀ k, (h : k < (str ++ s2).size) → 32 ≤ ((str ++ s2)[k]'h).toNat ∧ ((str ++ s2)[k]'h).toNat ≤ 126 from byte_at (s := str ++ s2) (P := fun c => 32 ≤ c.toNat ∧ c.toNat ≤ 126) (by rw [ba_app, hsd.out, h2d.out]; intro c hc; rcases List.mem_append.1 hc with hc | hc; exact hby9.out c hc; exact hby2.out c hc))
        go_upto_region 14 with fail
        generalize (str ++ s2) = big at *
        go_wp2_with fail
        go_loop [11] (fun i => ∃ k : Nat, k ≤ big.size ∧ i = .int .i64 k) (fun i => big.size - (intOf i).toNat)
        case atStart => exact ⟨0, Nat.zero_le _, rfl⟩
        case round =>
          obtain ⟨k, hk, rfl⟩ := hrel
          by_cases hlt : k < big.size
          · have hji : (k : Int) < (big.size : Int) := by omega
            obtain ⟨b1, b2⟩ := hbb.out k hlt
            have b1i : ¬ ((big[k]'hlt).toNat : Int) < 32 := by omega
            have b2i : ¬ (126 : Int) < ((big[k]'hlt).toNat : Int) := by omega
            go_wp2_with fail
            go_round
            case rel => exact ⟨k + 1, hlt, by go_num⟩
            case measure => simp [intOf] <;> omega
          · have hge : (big.size : Int) ≤ (k : Int) := by omega
            go_wp2_with fail
            go_ret
            exact ⟨rfl, D8.out⟩
      | true =>
        have hrh := Lib.hid hr
        obtain ⟨⟨GA, Gn, Gc⟩, ⟨HA, Hn, Hc⟩⟩ := S5
        obtain ⟨FA, Fn, Fc⟩ := F5
        have I5 := Lib.hid (show StpIs v5 ⟨1, se, 0, ⟨xk, xr, xi, xq, xd, xl, xa, xt, xn, xp, xo⟩, []⟩ ⟨⟨GA, Gn, Gc⟩, ⟨HA, Hn, Hc⟩⟩ ⟨FA, Fn, Fc⟩ from by have := I5.out; rw [hr] at this; exact this)
        clear hr
        simp only [if_true, Bool.false_eq_true, if_false]
        unfold stpC strV
        simp only
        go_upto_region 11 with fail
        have d6 := (Turned.refl (fun _ => False) v5).alloc (.cells #[.int .u8 1, .int .i64 se, .int .i64 0, .int .u8 xk, .int .i64 xr, .string ⟨xi.toArray⟩, .int .i64 xq, .int .i64 xd, .int .i64 xl, .int .i64 xa, .int .i64 xt, .int .i64 xn, .slice GA Gn Gc, .slice HA Hn Hc, .slice FA Fn Fc] 31)
        have BX := Lib.hid (Blk.new v5 31 #[.int .u8 1, .int .i64 se, .int .i64 0, .int .u8 xk, .int .i64 xr, .string ⟨xi.toArray⟩, .int .i64 xq, .int .i64 xd, .int .i64 xl, .int .i64 xa, .int .i64 xt, .int .i64 xn, .slice GA Gn Gc, .slice HA Hn Hc, .slice FA Fn Fc])
        obtain ⟨v6, hv6⟩ : ∃ v6, v6 = v5.alloc (.cells #[.int .u8 1, .int .i64 se, .int .i64 0, .int .u8 xk, .int .i64 xr, .string ⟨xi.toArray⟩, .int .i64 xq, .int .i64 xd, .int .i64 xl, .int .i64 xa, .int .i64 xt, .int .i64 xn, .slice GA Gn Gc, .slice HA Hn Hc, .slice FA Fn Fc] 31) := ⟨_, rfl⟩
        rw [← hv6] at BX d6 ⊢
        clear hv6
        have D6 := Lib.hid (D5.out.and_ d6)
        have BA := Lib.hid (BA.out.turned d6 (fun e => e))
        have BB := Lib.hid (BB.out.turned d6 (fun e => e))
        have I6 := Lib.hid (I5.out.fresh d6)
        clear d6 D5 I5
        generalize v5.heap.size = bx at *
        obtain ⟨a0, a1, a2, a3, a4, a5, a6, a7, a8, a9, a10⟩ := BA.out.cells11
        have hR := Lib.hid (ask_right_any ⟨xk, xr, xi, xq, xd, xl, xa, xt, xn, xp, xo⟩ ⟨⟨PA, Pn, Pc⟩, ⟨QA, Qn, Qc⟩⟩ v6 (hA.out.fresh D6.out) hoA.out (hv.out.kinds.fresh D6.out) hP.out)
        unfold askC strV at hR
        simp only at hR
        go_wp2_with fail
        refine hR.out.mono ?_
        rintro e v7 ⟨rfl, d7⟩
        rw [hrh.out]
        have D7 := Lib.hid (D6.out.and_ d7)
        have BA := Lib.hid (BA.out.turned d7 (fun e => e))
        have BB := Lib.hid (BB.out.turned d7 (fun e => e))
        have BX := Lib.hid (BX.out.turned d7 (fun e => e))
        have I7 := Lib.hid (I6.out.fresh d7)
        clear d7 D6 I6 hR a0 a1 a2 a3 a4 a5 a6 a7 a8 a9 a10
        obtain ⟨a0, a1, a2, a3, a4, a5, a6, a7, a8, a9, a10⟩ := BA.out.cells11
        obtain ⟨c0, c1, c2, c3, c4, c5, c6, c7, c8, c9, c10, c11, c12, c13, c14⟩ := BX.out.cells15
        have hS := Lib.hid (sameS_any ⟨1, se, 0, ⟨xk, xr, xi, xq, xd, xl, xa, xt, xn, xp, xo⟩, []⟩ ⟨⟨GA, Gn, Gc⟩, ⟨HA, Hn, Hc⟩⟩ ⟨⟨PA, Pn, Pc⟩, ⟨QA, Qn, Qc⟩⟩ ⟨FA, Fn, Fc⟩ Sl.nil v7 I7.out ⟨hA.out.fresh D7.out, SlF.none_ v7⟩)
        unfold stpC Sl.nil strV at hS
        simp only at hS
        go_wp2_with fail
        refine hS.out.mono ?_
        rintro e v8 ⟨rfl, d8⟩
        have D8 := Lib.hid (D7.out.and_ d8)
        have BA := Lib.hid (BA.out.turned d8 (fun e => e))
        have BB := Lib.hid (BB.out.turned d8 (fun e => e))
        clear d8 D7 a0 a1 a2 a3 a4 a5 a6 a7 a8 a9 a10
        obtain ⟨a0, a1, a2, a3, a4, a5, a6, a7, a8, a9, a10⟩ := BA.out.cells11
        clear hS c0 c1 c2 c3 c4 c5 c6 c7 c8 c9 c10 c11 c12 c13 c14
        go_upto_region 13 with fail
        have hby2 := Lib.hid (told_bytes ⟨tk, at_, ses, ⟨yk, yr, yi, yq, yd, yl, ya, yt, yn, yp, yo⟩, ⟨er, id, ty, cd, st, lots, uses⟩⟩)
        have hl2 := Lib.hid (show (toldL ⟨tk, at_, ses, ⟨yk, yr, yi, yq, yd, yl, ya, yt, yn, yp, yo⟩, ⟨er, id, ty, cd, st, lots, uses⟩⟩).length ≤ 300000 from told_len hoT.out)
        have hT2 := Lib.hid (fun W (t : Turned (fun _ => False) w W) => ltell_any ⟨tk, at_, ses, ⟨yk, yr, yi, yq, yd, yl, ya, yt, yn, yp, yo⟩, ⟨er, id, ty, cd, st, lots, uses⟩⟩ ⟨⟨MA, Mn, Mc⟩, ⟨NA, Nn, Nc⟩⟩ ⟨⟨LA, Ln, Lc⟩, ⟨UA, Un, Uc⟩⟩ W (hv.out.vars.turned t) (hv.out.kinds.fresh t) (hv.out.verbs.fresh t) (hY.out.fresh t) (hTI.out.fresh t) hoT.out hPy.out)
        unfold taleC strV at hT2
        simp only at hT2
        have hrg := BB.out.range
        go_wp2_with (refine wpList_load_mid rfl 44 _ rfl bb 0 rfl [.int .u8 tk, .int .i64 at_, .int .i64 ses, .int .u8 yk, .int .i64 yr, .string ⟨yi.toArray⟩, .int .i64 yq, .int .i64 yd, .int .i64 yl, .int .i64 ya, .int .i64 yt, .int .i64 yn, .slice MA Mn Mc, .slice NA Nn Nc, .int .i64 er, .int .i64 id, .int .i64 ty, .string ⟨cd.toArray⟩, .int .u8 st, .slice LA Ln Lc, .slice UA Un Uc] _ hrg Tryz.underlying44 rfl (by kernel_rfl) ?_; clear hrg)
        refine (hT2.out _ D8.out).mono ?_
        rintro e v9 ⟨rfl, d9⟩
        have D9 := Lib.hid (D8.out.and_ d9)
        clear d9 D8 hT2 a0 a1 a2 a3 a4 a5 a6 a7 a8 a9 a10
        obtain ⟨s2, hs20⟩ : ∃ s2 : ByteArray, s2 = ⟨(toldL ⟨tk, at_, ses, ⟨yk, yr, yi, yq, yd, yl, ya, yt, yn, yp, yo⟩, ⟨er, id, ty, cd, st, lots, uses⟩⟩).toArray⟩ := ⟨_, rfl⟩
        have h2d := Lib.hid (show s2.data.toList = toldL ⟨tk, at_, ses, ⟨yk, yr, yi, yq, yd, yl, ya, yt, yn, yp, yo⟩, ⟨er, id, ty, cd, st, lots, uses⟩⟩ from by rw [hs20])
        have h2s : s2.size ≤ 300000 := by rw [hs20]; simpa [ByteArray.size] using hl2.out
        rw [← hs20]
        clear hs20
        have hbz : (str ++ s2).size ≤ 600000 := by rw [ByteArray.size_append]; omega
        have hbb := Lib.hid (show ∀ k, (h : k < (str ++ s2).size) → 32 ≤ ((str ++ s2)[k]'h).toNat ∧ ((str ++ s2)[k]'h).toNat ≤ 126 from byte_at (s := str ++ s2) (P := fun c => 32 ≤ c.toNat ∧ c.toNat ≤ 126) (by rw [ba_app, hsd.out, h2d.out]; intro c hc; rcases List.mem_append.1 hc with hc | hc; exact hby9.out c hc; exact hby2.out c hc))
        go_upto_region 14 with fail
        generalize (str ++ s2) = big at *
        go_wp2_with fail
        go_loop [11] (fun i => ∃ k : Nat, k ≤ big.size ∧ i = .int .i64 k) (fun i => big.size - (intOf i).toNat)
        case atStart => exact ⟨0, Nat.zero_le _, rfl⟩
        case round =>
          obtain ⟨k, hk, rfl⟩ := hrel
          by_cases hlt : k < big.size
          · have hji : (k : Int) < (big.size : Int) := by omega
            obtain ⟨b1, b2⟩ := hbb.out k hlt
            have b1i : ¬ ((big[k]'hlt).toNat : Int) < 32 := by omega
            have b2i : ¬ (126 : Int) < ((big[k]'hlt).toNat : Int) := by omega
            go_wp2_with fail
            go_round
            case rel => exact ⟨k + 1, hlt, by go_num⟩
            case measure => simp [intOf] <;> omega
          · have hge : (big.size : Int) ≤ (k : Int) := by omega
            go_wp2_with fail
            go_ret
            exact ⟨rfl, D9.out⟩
end Go.Proofs.YtglojnmcbochaaaGreatDoor

