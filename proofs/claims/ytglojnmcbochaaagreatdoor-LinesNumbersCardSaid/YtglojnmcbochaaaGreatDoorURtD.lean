/-
 The document's word of a kind, and a command's words. Condition: texts are no longer than texts may be.
-/
import Derived.Test.YtglojnmcbochaaaGreatDoorURtC
import Derived.Test.YtglojnmcbochaaaGreatDoorUAskEh
import Derived.Test.YtglojnmcbochaaaGreatDoorUAskE
namespace Go.Proofs.YtglojnmcbochaaaGreatDoor
open Go.RowKit Go.Maps
set_option linter.unusedVariables false
set_option linter.unusedSimpArgs false

def namesB : ByteArray := ⟨#[105, 116, 101, 109, 32, 107, 105, 116, 32, 111, 116, 104, 101, 114, 115, 32, 114, 101, 99, 101, 105, 118, 101, 32, 111, 114, 100, 101, 114, 32, 100, 117, 101, 32, 100, 114, 111, 112, 32, 97, 114, 114, 105, 118, 101, 32, 110, 101, 101, 100, 32, 99, 97, 110, 99, 101, 108, 32, 115, 104, 105, 112, 32, 116, 105, 99, 107, 32, 119, 104, 101, 110, 32, 108, 105, 110, 101, 32, 115, 116, 111, 99, 107]⟩
theorem names_words : wordsL namesB.data.toList = verbT.tail := by decide
set_option maxRecDepth 100000 in
set_option maxHeartbeats 2000000 in
theorem rname_any (k : Nat) (hk1 : 1 ≤ k) (hk2 : k < 16) (w : World) : Calls Tryz.prog 80 #[.int .u8 k] w (StrNew (wordOf k) w) := by
 obtain ⟨m, rfl⟩ : ∃ m, k = m + 1 := ⟨k - 1, by omega⟩
 have hwo := hZ (show wordOf ((m + 1 : Nat) : Int) = verbT.tail.getD m [] from by unfold wordOf; rfl)
 have hwl : verbT.tail.length = 15 := rfl
 generalize wordOf ((m + 1 : Nat) : Int) = wo at *
 have hk1i : ¬ (((m + 1 : Nat) : Int) < 1) := by omega
 have hk2i : ¬ (15 < ((m + 1 : Nat) : Int)) := by omega
 have hsub : IntKind.u8.wrap (((m + 1 : Nat) : Int) - 1) = (m : Int) := by
  rw [show ((m + 1 : Nat) : Int) - 1 = (m : Int) by omega]
  exact IntWalk.u8_in _ (by omega)
 have hsub2 : ((m + 1 : Nat) : Int) - 1 = (m : Int) := by omega
 have hm15 : (m : Int) < 15 := by omega
 have hrw := hZ (fun W => rwords_any namesB W (by decide))
 have hk255 : ((m + 1 : Nat) : Int) ≤ 255 := by omega
 have hk0 : (0 : Int) ≤ ((m + 1 : Nat) : Int) := by omega
 generalize hKK : ((m + 1 : Nat) : Int) = KK at *
 go_enter Tryz.func80, Tryz.ntmps80
 go_wp2_with fail
 refine (hrw.out _).mono ?_
 rintro e w1 ⟨A, c, rfl, ho, hA, t1⟩
 rw [names_words] at ho ⊢
 rw [hwl] at ho ⊢
 obtain ⟨b, rfl, hc⟩ := ho.some_ (by omega)
 have q0 : w1.cell? ⟨b, m, none⟩ = some (strV (verbT.tail.getD m [])) := hc.cell (textC_get verbT.tail m (by rw [hwl]; omega))
 have t1' := hZ t1
 clear ho hA t1 hc
 rw [← hwo.out] at q0
 unfold strV at q0
 go_wp2_with fail
 go_ret
 exact ⟨rfl, t1'.out⟩
set_option maxRecDepth 100000 in
set_option maxHeartbeats 16000000 in
theorem rasks_any (a : AskV) (S : AskS) (w : World) (hIs : AskIs w a S) (hok : a.Ok) : Calls Tryz.prog 40 #[.agg (askC a S)] w (StrNew (each32 (asksW a)) w) := by
 have mixed : Tryz.prog.follows .mixedOrders = true := by kernel_rfl
 have hRt := hZ (fun W (h : Turned (fun _ => False) w W) => rright13_any a S W (hIs.fresh h) hok)
 obtain ⟨kd, rq, it, qt, dy, dz, rk, lo, ln, parts, others⟩ := a
 obtain ⟨⟨PA, Pn, Pc⟩, ⟨QA, On, Oc⟩⟩ := S
 have hb1 := Nat.le_trans hIs.parts.le hIs.parts.max
 have hb2 := Nat.le_trans hIs.others.le hIs.others.max
 unfold maxLen at hb1 hb2
 simp only at hb1 hb2
 have hI := hZ hIs
 have hOk := hZ hok
 clear hIs hok
 unfold askC strV at hRt ⊢
 simp only at hRt ⊢
 have hsd0 : (⟨it.toArray⟩ : ByteArray).data.toList = it := by simp
 generalize (⟨it.toArray⟩ : ByteArray) = str at *
 have hsd := hZ hsd0
 clear hsd0
 go_enter Tryz.func40, Tryz.ntmps40
 go_wp2_with fail
 have tb := (Turned.refl (fun _ => False) w).alloc (.cells #[.int .u8 kd, .int .i64 rq, .string str, .int .i64 qt, .int .i64 dy, .int .i64 dz, .int .i64 rk, .int .i64 lo, .int .i64 ln, .slice PA Pn Pc, .slice QA On Oc] 28)
 have hB0 := Blk.new w 28 #[.int .u8 kd, .int .i64 rq, .string str, .int .i64 qt, .int .i64 dy, .int .i64 dz, .int .i64 rk, .int .i64 lo, .int .i64 ln, .slice PA Pn Pc, .slice QA On Oc]
 refine (hRt.out _ tb).mono ?_
 rintro e W1 ⟨rfl, t1⟩
 have T1 := hZ (tb.and_ t1)
 have BT1 := hZ (hB0.turned t1 (fun e => e))
 obtain ⟨bt, hbt⟩ : ∃ bt, w.heap.size = bt := ⟨_, rfl⟩
 rw [hbt] at BT1 ⊢
 clear hbt tb t1 hB0 hRt
 obtain ⟨x0, x1, x2, x3, x4, x5, x6, x7, x8, x9, x10⟩ := BT1.out.cells11
 cases hr : rightA ⟨kd, rq, it, qt, dy, dz, rk, lo, ln, parts, others⟩ with
 | false =>
  have hr' := hZ hr
  clear hr
  go_wp2_with fail
  go_ret
  have e : asksW ⟨kd, rq, it, qt, dy, dz, rk, lo, ln, parts, others⟩ = [[110, 111, 110, 101]] := by unfold asksW; rw [if_neg (by rw [hr'.out]; decide)]
  rw [e]
  exact ⟨rfl, T1.out⟩
 | true =>
  have hr' := hZ hr
  clear hr
  obtain ⟨f, hf, hfo, hall⟩ := right_ok hr'.out
  clear hall
  obtain ⟨kn, hkn, hk1, hk2⟩ : ∃ kn : Nat, kd = (kn : Int) ∧ 1 ≤ kn ∧ kn < 16 := by
   have := fieldsK_range (show fieldsK kd = some f from hf)
   exact ⟨kd.toNat, by omega, by omega, by omega⟩
  subst hkn
  have hkk := kindW_of hf
  have hkv := hZ (show kindV (wordOf kn) = .tuple #[.int .u8 kn, .string (fBA f)] from by rw [kindW_val _ _ hkk.1, show fieldsK (kn : Int) = some f from hf]; rfl)
  have hkf := hZ (fieldsK_kinds hf)
  have hfo := hZ hfo
  have hff := hZ hf
  clear hkk hf
  have hvz : (wordOf kn).length ≤ 7 := verbT_len _
  have hnm := hZ (fun W => rname_any kn hk1 hk2 W)
  obtain ⟨vt, hvt0⟩ : ∃ vt, wordOf kn = vt := ⟨_, rfl⟩
  rw [hvt0] at hkv hvz hnm
  have hvt := hZ hvt0
  clear hvt0
  obtain ⟨x0, x1, x2, x3, x4, x5, x6, x7, x8, x9, x10⟩ := BT1.out.cells11
  go_wp2_with fail
  refine (hnm.out _).mono ?_
  rintro e W2 ⟨rfl, q⟩
  have T2 := hZ (T1.out.and_ q)
  have B2 := hZ (BT1.out.turned q (fun e => e))
  clear q T1 BT1 hnm x0 x1 x2 x3 x4 x5 x6 x7 x8 x9 x10
  obtain ⟨x0, x1, x2, x3, x4, x5, x6, x7, x8, x9, x10⟩ := B2.out.cells11
  go_wp2_with fail
  refine (rkind_any vt _).mono ?_
  rintro e W3 ⟨rfl, rfl⟩
  rw [hkv.out]
  obtain ⟨v9, h9, hd90, hz9⟩ : ∃ v9 : ByteArray, v9 = ⟨vt.toArray⟩ ∧ v9.data.toList = vt ∧ v9.size ≤ 7 := ⟨_, rfl, by simp, bz_le hvz⟩
  rw [← h9]
  have hd9 := hZ hd90
  clear h9 hd90
  have hbz : ((⟨#[32]⟩ : ByteArray) ++ v9).size ≤ 1 + 7 := by rw [ByteArray.size_append]; have := (show (⟨#[32]⟩ : ByteArray).size = 1 from rfl); omega
  have hbz2 : ((⟨#[32]⟩ : ByteArray) ++ v9 ++ (⟨#[32]⟩ : ByteArray)).size ≤ 8 + 1 := by rw [ByteArray.size_append]; have := (show (⟨#[32]⟩ : ByteArray).size = 1 from rfl); omega
  go_wp2_with fail
  refine (rtext_any rq _ hOk.out.request).mono ?_
  rintro e W3 ⟨rfl, q⟩
  have T3 := hZ (T2.out.and_ q)
  have B3 := hZ (B2.out.turned q (fun e => e))
  clear q T2 B2 x0 x1 x2 x3 x4 x5 x6 x7 x8 x9 x10
  obtain ⟨p8, h8, hd80, hz8⟩ : ∃ p8 : ByteArray, p8 = ⟨(Lib.itoa rq).toArray⟩ ∧ p8.data.toList = Lib.itoa rq ∧ p8.size ≤ 21 := ⟨_, rfl, by simp, bz_le (itoa_len rq hOk.out.request)⟩
  rw [← h8]
  have hd8 := hZ hd80
  clear h8 hd80
  have hbz3 : ((⟨#[32]⟩ : ByteArray) ++ v9 ++ (⟨#[32]⟩ : ByteArray) ++ p8).size ≤ 9 + 21 := by rw [ByteArray.size_append]; omega
  obtain ⟨x0, x1, x2, x3, x4, x5, x6, x7, x8, x9, x10⟩ := B3.out.cells11
  go_wp2_with fail
  obtain ⟨ws3, hws3⟩ : ∃ ws3 : WS, ws3 = [vt, Lib.itoa rq] := ⟨_, rfl⟩
  have hws3h := hZ hws3
  clear hws3
  have hst := hZ (show RtRel 28 f.length w bt #[.int .u8 kn, .int .i64 rq, .string str, .int .i64 qt, .int .i64 dy, .int .i64 dz, .int .i64 rk, .int .i64 lo, .int .i64 ln, .slice PA Pn Pc, .slice QA On Oc] (fun p => each32 (ws3 ++ (f.take p).flatMap (fieldW ⟨(kn : Int), rq, it, qt, dy, dz, rk, lo, ln, parts, others⟩))) 64 300 (.string ((⟨#[32]⟩ : ByteArray) ++ v9 ++ (⟨#[32]⟩ : ByteArray) ++ p8)) (.int .i64 0) W3 from ⟨0, _, Nat.zero_le _, rfl, rfl, by rw [bapp, bapp, bapp, hd9.out, hd8.out, hws3h.out]; simp [each32], by omega, B3.out, T3.out⟩)
  clear B3 T3 hd9 hd8 hz9 hz8 hbz hbz2 hbz3 x0 x1 x2 x3 x4 x5 x6 x7 x8 x9 x10
  generalize (⟨#[32]⟩ : ByteArray) ++ v9 ++ (⟨#[32]⟩ : ByteArray) ++ p8 = p7 at *
  have hfz : (fBA f).size = f.length := fBA_size f
  have hf16 : f.length ≤ 16 := Nat.le_trans (kindsL_len hkf.out) (by decide)
  go_loopw [6, 7] (fun v i wr => RtRel 28 f.length w bt #[.int .u8 kn, .int .i64 rq, .string str, .int .i64 qt, .int .i64 dy, .int .i64 dz, .int .i64 rk, .int .i64 lo, .int .i64 ln, .slice PA Pn Pc, .slice QA On Oc] (fun p => each32 (ws3 ++ (f.take p).flatMap (fieldW ⟨(kn : Int), rq, it, qt, dy, dz, rk, lo, ln, parts, others⟩))) 64 300 v i wr) (fun _ i _ => f.length - (intOf i).toNat)
  case atStart => exact hst.out
  case round =>
   obtain ⟨pos, s, hpl0, rfl, rfl, hd0, hz0, hB0, hT0⟩ := hrel
   clear hst
   have hds := hZ (show s.data.toList = each32 (ws3 ++ (f.take pos).flatMap (fieldW ⟨(kn : Int), rq, it, qt, dy, dz, rk, lo, ln, parts, others⟩)) from hd0)
   have B2 := hZ hB0
   have T2 := hZ hT0
   clear hd0 hB0 hT0
   by_cases hp : pos < (fBA f).size
   ·have hpl : pos < f.length := by rw [fBA_size] at hp; exact hp
    have hpi : (pos : Int) < (f.length : Int) := by omega
    have hpi2 : (pos : Int) < ((fBA f).size : Int) := by omega
    obtain ⟨c, hcm2, hcv, htk0, h128⟩ := letter_at hkf.out hp
    have hcf : c ∈ f := List.mem_of_mem_take (show c ∈ f.take (pos + 1) by rw [htk0]; simp)
    have hok := hZ (hfo.out c hcf).1
    have htk := hZ htk0
    clear htk0 hcf h128
    obtain ⟨x0, x1, x2, x3, x4, x5, x6, x7, x8, x9, x10⟩ := B2.out.cells11
    go_upto_region 10 with fail
    generalize ((fBA f)[pos]'hp).toNat = k' at *
    subst hcv
    have W2r : wr = wr := rfl
    unfold letters at hcm2
    simp only [List.mem_cons, List.not_mem_nil, or_false] at hcm2
    rcases hcm2 with rfl | rfl | rfl | rfl | rfl | rfl | rfl | rfl | rfl
    ·have hci : str.size ≤ 12 := by rw [Lib.size_eq, hsd.out]; have := codeL_len (show codeL it = true from hok.out); omega
     have hbz : (s ++ (⟨#[32]⟩ : ByteArray)).size ≤ 64 + 300 * pos + 1 := by rw [ByteArray.size_append]; have := (show (⟨#[32]⟩ : ByteArray).size = 1 from rfl); omega
     have hbz2 : (s ++ (⟨#[32]⟩ : ByteArray) ++ str).size ≤ 64 + 300 * pos + 1 + 12 := by rw [ByteArray.size_append]; omega
     go_wp2_with fail
     go_roundw
     case rel => exact ⟨pos + 1, _, hpl, by go_num, rfl, by show (s ++ (⟨#[32]⟩ : ByteArray) ++ str).data.toList = each32 (ws3 ++ (f.take (pos + 1)).flatMap (fieldW ⟨(kn : Int), rq, it, qt, dy, dz, rk, lo, ln, parts, others⟩)); rw [htk.out, flat_snoc, show fieldW ⟨(kn : Int), rq, it, qt, dy, dz, rk, lo, ln, parts, others⟩ 105 = [it] from rfl, ← List.append_assoc, each32_append (ws3 ++ (f.take pos).flatMap (fieldW ⟨(kn : Int), rq, it, qt, dy, dz, rk, lo, ln, parts, others⟩)), ← hds.out]; rw [bapp, bapp, hsd.out]; simp [each32], by omega, B2.out, T2.out⟩
     case measure => simp [intOf] <;> omega
    ·have hbz : (s ++ (⟨#[32]⟩ : ByteArray)).size ≤ 64 + 300 * pos + 1 := by rw [ByteArray.size_append]; have := (show (⟨#[32]⟩ : ByteArray).size = 1 from rfl); omega
     go_wp2_with fail
     refine (rtext_any qt _ hOk.out.qty).mono ?_
     rintro e W3 ⟨rfl, q⟩
     have T3 := hZ (T2.out.and_ q)
     have B3 := hZ (B2.out.turned q (fun e => e))
     clear q T2 B2 x0 x1 x2 x3 x4 x5 x6 x7 x8 x9 x10
     obtain ⟨p8, h8, hd80, hz8⟩ : ∃ p8 : ByteArray, p8 = ⟨(Lib.itoa qt).toArray⟩ ∧ p8.data.toList = Lib.itoa qt ∧ p8.size ≤ 21 := ⟨_, rfl, by simp, bz_le (itoa_len qt hOk.out.qty)⟩
     rw [← h8]
     have hd8 := hZ hd80
     clear h8 hd80
     have hbz2 : (s ++ (⟨#[32]⟩ : ByteArray) ++ p8).size ≤ 64 + 300 * pos + 1 + 21 := by rw [ByteArray.size_append]; omega
     obtain ⟨x0, x1, x2, x3, x4, x5, x6, x7, x8, x9, x10⟩ := B3.out.cells11
     go_wp2_with fail
     go_roundw
     case rel => exact ⟨pos + 1, _, hpl, by go_num, rfl, by show (s ++ (⟨#[32]⟩ : ByteArray) ++ p8).data.toList = each32 (ws3 ++ (f.take (pos + 1)).flatMap (fieldW ⟨(kn : Int), rq, it, qt, dy, dz, rk, lo, ln, parts, others⟩)); rw [htk.out, flat_snoc, show fieldW ⟨(kn : Int), rq, it, qt, dy, dz, rk, lo, ln, parts, others⟩ 113 = [Lib.itoa qt] from rfl, ← List.append_assoc, each32_append (ws3 ++ (f.take pos).flatMap (fieldW ⟨(kn : Int), rq, it, qt, dy, dz, rk, lo, ln, parts, others⟩)), ← hds.out]; rw [bapp, bapp, hd8.out]; simp [each32], by omega, B3.out, T3.out⟩
     case measure => simp [intOf] <;> omega
    ·go_wp2_with fail
     refine (rtext32_any dy _ hOk.out.day).mono ?_
     rintro e W3 ⟨rfl, q⟩
     have T3 := hZ (T2.out.and_ q)
     have B3 := hZ (B2.out.turned q (fun e => e))
     clear q T2 B2 x0 x1 x2 x3 x4 x5 x6 x7 x8 x9 x10
     obtain ⟨p8, h8, hd80, hz8⟩ : ∃ p8 : ByteArray, p8 = ⟨(32 :: Lib.itoa dy).toArray⟩ ∧ p8.data.toList = 32 :: Lib.itoa dy ∧ p8.size ≤ 22 := ⟨_, rfl, by simp, bz_le (by have := itoa_len dy hOk.out.day; simp only [List.length_cons]; omega)⟩
     rw [← h8]
     have hd8 := hZ hd80
     clear h8 hd80
     have hbz : (s ++ p8).size ≤ 64 + 300 * pos + 22 := by rw [ByteArray.size_append]; omega
     obtain ⟨x0, x1, x2, x3, x4, x5, x6, x7, x8, x9, x10⟩ := B3.out.cells11
     go_wp2_with fail
     go_roundw
     case rel => exact ⟨pos + 1, _, hpl, by go_num, rfl, by show (s ++ p8).data.toList = each32 (ws3 ++ (f.take (pos + 1)).flatMap (fieldW ⟨(kn : Int), rq, it, qt, dy, dz, rk, lo, ln, parts, others⟩)); rw [htk.out, flat_snoc, show fieldW ⟨(kn : Int), rq, it, qt, dy, dz, rk, lo, ln, parts, others⟩ 100 = [Lib.itoa dy] from rfl, ← List.append_assoc, each32_append (ws3 ++ (f.take pos).flatMap (fieldW ⟨(kn : Int), rq, it, qt, dy, dz, rk, lo, ln, parts, others⟩)), ← hds.out]; rw [bapp, hd8.out]; simp [each32], by omega, B3.out, T3.out⟩
     case measure => simp [intOf] <;> omega
    ·go_wp2_with fail
     refine (rtext32_any dz _ hOk.out.days).mono ?_
     rintro e W3 ⟨rfl, q⟩
     have T3 := hZ (T2.out.and_ q)
     have B3 := hZ (B2.out.turned q (fun e => e))
     clear q T2 B2 x0 x1 x2 x3 x4 x5 x6 x7 x8 x9 x10
     obtain ⟨p8, h8, hd80, hz8⟩ : ∃ p8 : ByteArray, p8 = ⟨(32 :: Lib.itoa dz).toArray⟩ ∧ p8.data.toList = 32 :: Lib.itoa dz ∧ p8.size ≤ 22 := ⟨_, rfl, by simp, bz_le (by have := itoa_len dz hOk.out.days; simp only [List.length_cons]; omega)⟩
     rw [← h8]
     have hd8 := hZ hd80
     clear h8 hd80
     have hbz : (s ++ p8).size ≤ 64 + 300 * pos + 22 := by rw [ByteArray.size_append]; omega
     obtain ⟨x0, x1, x2, x3, x4, x5, x6, x7, x8, x9, x10⟩ := B3.out.cells11
     go_wp2_with fail
     go_roundw
     case rel => exact ⟨pos + 1, _, hpl, by go_num, rfl, by show (s ++ p8).data.toList = each32 (ws3 ++ (f.take (pos + 1)).flatMap (fieldW ⟨(kn : Int), rq, it, qt, dy, dz, rk, lo, ln, parts, others⟩)); rw [htk.out, flat_snoc, show fieldW ⟨(kn : Int), rq, it, qt, dy, dz, rk, lo, ln, parts, others⟩ 108 = [Lib.itoa dz] from rfl, ← List.append_assoc, each32_append (ws3 ++ (f.take pos).flatMap (fieldW ⟨(kn : Int), rq, it, qt, dy, dz, rk, lo, ln, parts, others⟩)), ← hds.out]; rw [bapp, hd8.out]; simp [each32], by omega, B3.out, T3.out⟩
     case measure => simp [intOf] <;> omega
    ·go_wp2_with fail
     refine (rtext32_any rk _ hOk.out.rank).mono ?_
     rintro e W3 ⟨rfl, q⟩
     have T3 := hZ (T2.out.and_ q)
     have B3 := hZ (B2.out.turned q (fun e => e))
     clear q T2 B2 x0 x1 x2 x3 x4 x5 x6 x7 x8 x9 x10
     obtain ⟨p8, h8, hd80, hz8⟩ : ∃ p8 : ByteArray, p8 = ⟨(32 :: Lib.itoa rk).toArray⟩ ∧ p8.data.toList = 32 :: Lib.itoa rk ∧ p8.size ≤ 22 := ⟨_, rfl, by simp, bz_le (by have := itoa_len rk hOk.out.rank; simp only [List.length_cons]; omega)⟩
     rw [← h8]
     have hd8 := hZ hd80
     clear h8 hd80
     have hbz : (s ++ p8).size ≤ 64 + 300 * pos + 22 := by rw [ByteArray.size_append]; omega
     obtain ⟨x0, x1, x2, x3, x4, x5, x6, x7, x8, x9, x10⟩ := B3.out.cells11
     go_wp2_with fail
     go_roundw
     case rel => exact ⟨pos + 1, _, hpl, by go_num, rfl, by show (s ++ p8).data.toList = each32 (ws3 ++ (f.take (pos + 1)).flatMap (fieldW ⟨(kn : Int), rq, it, qt, dy, dz, rk, lo, ln, parts, others⟩)); rw [htk.out, flat_snoc, show fieldW ⟨(kn : Int), rq, it, qt, dy, dz, rk, lo, ln, parts, others⟩ 114 = [Lib.itoa rk] from rfl, ← List.append_assoc, each32_append (ws3 ++ (f.take pos).flatMap (fieldW ⟨(kn : Int), rq, it, qt, dy, dz, rk, lo, ln, parts, others⟩)), ← hds.out]; rw [bapp, hd8.out]; simp [each32], by omega, B3.out, T3.out⟩
     case measure => simp [intOf] <;> omega
    ·go_wp2_with fail
     refine (rtext32_any lo _ hOk.out.lot).mono ?_
     rintro e W3 ⟨rfl, q⟩
     have T3 := hZ (T2.out.and_ q)
     have B3 := hZ (B2.out.turned q (fun e => e))
     clear q T2 B2 x0 x1 x2 x3 x4 x5 x6 x7 x8 x9 x10
     obtain ⟨p8, h8, hd80, hz8⟩ : ∃ p8 : ByteArray, p8 = ⟨(32 :: Lib.itoa lo).toArray⟩ ∧ p8.data.toList = 32 :: Lib.itoa lo ∧ p8.size ≤ 22 := ⟨_, rfl, by simp, bz_le (by have := itoa_len lo hOk.out.lot; simp only [List.length_cons]; omega)⟩
     rw [← h8]
     have hd8 := hZ hd80
     clear h8 hd80
     have hbz : (s ++ p8).size ≤ 64 + 300 * pos + 22 := by rw [ByteArray.size_append]; omega
     obtain ⟨x0, x1, x2, x3, x4, x5, x6, x7, x8, x9, x10⟩ := B3.out.cells11
     go_wp2_with fail
     go_roundw
     case rel => exact ⟨pos + 1, _, hpl, by go_num, rfl, by show (s ++ p8).data.toList = each32 (ws3 ++ (f.take (pos + 1)).flatMap (fieldW ⟨(kn : Int), rq, it, qt, dy, dz, rk, lo, ln, parts, others⟩)); rw [htk.out, flat_snoc, show fieldW ⟨(kn : Int), rq, it, qt, dy, dz, rk, lo, ln, parts, others⟩ 116 = [Lib.itoa lo] from rfl, ← List.append_assoc, each32_append (ws3 ++ (f.take pos).flatMap (fieldW ⟨(kn : Int), rq, it, qt, dy, dz, rk, lo, ln, parts, others⟩)), ← hds.out]; rw [bapp, hd8.out]; simp [each32], by omega, B3.out, T3.out⟩
     case measure => simp [intOf] <;> omega
    ·go_wp2_with fail
     refine (rtext32_any ln _ hOk.out.line).mono ?_
     rintro e W3 ⟨rfl, q⟩
     have T3 := hZ (T2.out.and_ q)
     have B3 := hZ (B2.out.turned q (fun e => e))
     clear q T2 B2 x0 x1 x2 x3 x4 x5 x6 x7 x8 x9 x10
     obtain ⟨p8, h8, hd80, hz8⟩ : ∃ p8 : ByteArray, p8 = ⟨(32 :: Lib.itoa ln).toArray⟩ ∧ p8.data.toList = 32 :: Lib.itoa ln ∧ p8.size ≤ 22 := ⟨_, rfl, by simp, bz_le (by have := itoa_len ln hOk.out.line; simp only [List.length_cons]; omega)⟩
     rw [← h8]
     have hd8 := hZ hd80
     clear h8 hd80
     have hbz : (s ++ p8).size ≤ 64 + 300 * pos + 22 := by rw [ByteArray.size_append]; omega
     obtain ⟨x0, x1, x2, x3, x4, x5, x6, x7, x8, x9, x10⟩ := B3.out.cells11
     go_wp2_with fail
     go_roundw
     case rel => exact ⟨pos + 1, _, hpl, by go_num, rfl, by show (s ++ p8).data.toList = each32 (ws3 ++ (f.take (pos + 1)).flatMap (fieldW ⟨(kn : Int), rq, it, qt, dy, dz, rk, lo, ln, parts, others⟩)); rw [htk.out, flat_snoc, show fieldW ⟨(kn : Int), rq, it, qt, dy, dz, rk, lo, ln, parts, others⟩ 110 = [Lib.itoa ln] from rfl, ← List.append_assoc, each32_append (ws3 ++ (f.take pos).flatMap (fieldW ⟨(kn : Int), rq, it, qt, dy, dz, rk, lo, ln, parts, others⟩)), ← hds.out]; rw [bapp, hd8.out]; simp [each32], by omega, B3.out, T3.out⟩
     case measure => simp [intOf] <;> omega
    ·have hpb := hZ (partsB_mem (show partsB parts = true from hok.out))
     have hPl := hZ (show parts.length = Pn from hI.out.parts.len)
     have hP8 : Pn ≤ 8 := by have := hpb.out.2.1; have := hPl.out; omega
     go_wp2_with fail
     have hst2 := hZ (show RtRel 28 Pn w bt #[.int .u8 kn, .int .i64 rq, .string str, .int .i64 qt, .int .i64 dy, .int .i64 dz, .int .i64 rk, .int .i64 lo, .int .i64 ln, .slice PA Pn Pc, .slice QA On Oc] (fun j => s.data.toList ++ each32 ((parts.take j).flatMap (fun p => [p.1, Lib.itoa p.2]))) (64 + 300 * pos) 36 (.string s) (.int .i64 0) wr from ⟨0, _, Nat.zero_le _, rfl, rfl, by simp [each32], by omega, B2.out, T2.out⟩)
     clear B2 T2 x0 x1 x2 x3 x4 x5 x6 x7 x8 x9 x10
     go_loopw [6, 8] (fun v i wr => RtRel 28 Pn w bt #[.int .u8 kn, .int .i64 rq, .string str, .int .i64 qt, .int .i64 dy, .int .i64 dz, .int .i64 rk, .int .i64 lo, .int .i64 ln, .slice PA Pn Pc, .slice QA On Oc] (fun j => s.data.toList ++ each32 ((parts.take j).flatMap (fun p => [p.1, Lib.itoa p.2]))) (64 + 300 * pos) 36 v i wr) (fun _ i _ => Pn - (intOf i).toNat)
     case atStart => exact hst2.out
     case round =>
      obtain ⟨j, p9, hj, rfl, rfl, hd0, hz0, hB0, hT0⟩ := hrel
      clear hst2
      have hd9 := hZ (show p9.data.toList = s.data.toList ++ each32 ((parts.take j).flatMap (fun p => [p.1, Lib.itoa p.2])) from hd0)
      have B2 := hZ hB0
      have T2 := hZ hT0
      clear hd0 hB0 hT0
      by_cases hlt : j < Pn
      ·have hji : (j : Int) < (Pn : Int) := by omega
       obtain ⟨bl, off, hA, hc⟩ := (hI.out.parts.fresh T2.out).cells (show 0 < Pn by omega)
       simp only at hA
       subst hA
       obtain ⟨q0, q1⟩ := hc j hlt
       unfold strV itemAt at q0
       unfold qtyAt at q1
       have hjl := hZ (show j < parts.length by rw [hPl.out]; exact hlt)
       have hm := hZ (flat_take (fun p : List UInt8 × Int => [p.1, Lib.itoa p.2]) parts ([], 0) j hjl.out)
       have hmem : parts.getD j ([], 0) ∈ parts := by rw [List.getD_eq_getElem?_getD, List.getElem?_eq_getElem hjl.out]; exact List.getElem_mem hjl.out
       have hu := (hOk.out.parts _ hmem).2
       have hci := codeL_len (hpb.out.2.2 _ hmem).1
       clear hc hmem
       generalize parts.getD j ([], 0) = U at *
       obtain ⟨u0, u1⟩ := U
       simp only at q0 q1 hu hci
       have hud := hZ (show (⟨u0.toArray⟩ : ByteArray).data.toList = u0 from by simp)
       have huz : (⟨u0.toArray⟩ : ByteArray).size ≤ 12 := bz_le (by omega)
       generalize (⟨u0.toArray⟩ : ByteArray) = u at *
       obtain ⟨x0, x1, x2, x3, x4, x5, x6, x7, x8, x9, x10⟩ := B2.out.cells11
       go_upto_region 28 with fail
       refine wp_region_segs (fun w' => Blk w' bt 28 #[.int .u8 kn, .int .i64 rq, .string str, .int .i64 qt, .int .i64 dy, .int .i64 dz, .int .i64 rk, .int .i64 lo, .int .i64 ln, .slice (some ⟨bl, off, none⟩) Pn Pc, .slice QA On Oc] ∧ w'.cell? ⟨bl, off + j * 2, none⟩ = some (.string u) ∧ w'.cell? ⟨bl, off + j * 2 + 1, none⟩ = some (.int .i64 u1)) (segT [0, 1, 2, 3, 4, 5, 6, 7, 8, 9, 10, 11, 12, 13, 14, 15] ++ segF [16] ++ segT [17, 18]) mixed (by kernel_rfl) (fun _ _ _ _ _ h => h) ?_
       simp only [segT, segF, pickSegs, zF, List.map_nil, zG, zH, List.filterMap_cons, List.filterMap_nil, zI, zJ, Option.map_some]
       have q := (Turned.refl (fun _ => False) wr).drew
       have hS : Blk wr.drew bt 28 #[.int .u8 kn, .int .i64 rq, .string str, .int .i64 qt, .int .i64 dy, .int .i64 dz, .int .i64 rk, .int .i64 lo, .int .i64 ln, .slice (some ⟨bl, off, none⟩) Pn Pc, .slice QA On Oc] ∧ wr.drew.cell? ⟨bl, off + j * 2, none⟩ = some (.string u) ∧ wr.drew.cell? ⟨bl, off + j * 2 + 1, none⟩ = some (.int .i64 u1) := ⟨B2.out.drew, q0, q1⟩
       have TX := hZ (T2.out.and_ q)
       clear q T2 B2 q0 q1 x0 x1 x2 x3 x4 x5 x6 x7 x8 x9 x10
       generalize wr.drew = W3 at *
       (refine wpSegs_take (v := ?_) hS rfl (fun w' hw => ?_) ?_; rotate_left; (obtain ⟨x0, x1, x2, x3, x4, x5, x6, x7, x8, x9, x10⟩ := Blk.cells11 hw.1; obtain ⟨-, y0, y1⟩ := hw; go_simp; (try rw [if_neg (by omega)]); try with_reducible rfl); (try simp only [Act.put, zA, zB, zC]))
       have hbz : (p9 ++ (⟨#[32]⟩ : ByteArray)).size ≤ 64 + 300 * pos + 36 * j + 1 := by rw [ByteArray.size_append]; have := (show (⟨#[32]⟩ : ByteArray).size = 1 from rfl); omega
       (refine wpSegs_take (v := ?_) hS rfl (fun w' hw => ?_) ?_; rotate_left; (obtain ⟨x0, x1, x2, x3, x4, x5, x6, x7, x8, x9, x10⟩ := Blk.cells11 hw.1; obtain ⟨-, y0, y1⟩ := hw; go_simp; (try rw [if_neg (by omega)]); try with_reducible rfl); (try simp only [Act.put, zA, zB, zC]))
       obtain ⟨s25, hs25⟩ : ∃ s25, p9 ++ (⟨#[32]⟩ : ByteArray) = s25 := ⟨_, rfl⟩
       rw [hs25]
       have hzs25 : s25.size ≤ 64 + 300 * pos + 36 * j + 1 := by rw [← hs25]; exact hbz
       have hds25 := hZ (show s25.data.toList = (p9.data.toList ++ [32]) from by rw [← hs25, bapp])
       clear hs25 hbz
       iterate 6 (refine wpSegs_take (v := ?_) hS rfl (fun w' hw => ?_) ?_; rotate_left; (obtain ⟨x0, x1, x2, x3, x4, x5, x6, x7, x8, x9, x10⟩ := Blk.cells11 hw.1; obtain ⟨-, y0, y1⟩ := hw; go_simp; (try rw [if_neg (by omega)]); try with_reducible rfl); (try simp only [Act.put, zA, zB, zC]))
       have hbz : (s25 ++ u).size ≤ 64 + 300 * pos + 36 * j + 1 + 12 := by rw [ByteArray.size_append]; omega
       (refine wpSegs_take (v := ?_) hS rfl (fun w' hw => ?_) ?_; rotate_left; (obtain ⟨x0, x1, x2, x3, x4, x5, x6, x7, x8, x9, x10⟩ := Blk.cells11 hw.1; obtain ⟨-, y0, y1⟩ := hw; go_simp; (try rw [if_neg (by omega)]); try with_reducible rfl); (try simp only [Act.put, zA, zB, zC]))
       obtain ⟨s26, hs26⟩ : ∃ s26, s25 ++ u = s26 := ⟨_, rfl⟩
       rw [hs26]
       have hzs26 : s26.size ≤ 64 + 300 * pos + 36 * j + 1 + 12 := by rw [← hs26]; exact hbz
       have hds26 := hZ (show s26.data.toList = ((p9.data.toList ++ [32]) ++ u.data.toList) from by rw [← hs26, bapp, hds25.out])
       clear hs26 hbz
       have hbz : (s26 ++ (⟨#[32]⟩ : ByteArray)).size ≤ 64 + 300 * pos + 36 * j + 1 + 12 + 1 := by rw [ByteArray.size_append]; have := (show (⟨#[32]⟩ : ByteArray).size = 1 from rfl); omega
       (refine wpSegs_take (v := ?_) hS rfl (fun w' hw => ?_) ?_; rotate_left; (obtain ⟨x0, x1, x2, x3, x4, x5, x6, x7, x8, x9, x10⟩ := Blk.cells11 hw.1; obtain ⟨-, y0, y1⟩ := hw; go_simp; (try rw [if_neg (by omega)]); try with_reducible rfl); (try simp only [Act.put, zA, zB, zC]))
       obtain ⟨s27, hs27⟩ : ∃ s27, s26 ++ (⟨#[32]⟩ : ByteArray) = s27 := ⟨_, rfl⟩
       rw [hs27]
       have hzs27 : s27.size ≤ 64 + 300 * pos + 36 * j + 1 + 12 + 1 := by rw [← hs27]; exact hbz
       have hds27 := hZ (show s27.data.toList = (((p9.data.toList ++ [32]) ++ u.data.toList) ++ [32]) from by rw [← hs27, bapp, hds26.out])
       clear hs27 hbz
       iterate 6 (refine wpSegs_take (v := ?_) hS rfl (fun w' hw => ?_) ?_; rotate_left; (obtain ⟨x0, x1, x2, x3, x4, x5, x6, x7, x8, x9, x10⟩ := Blk.cells11 hw.1; obtain ⟨-, y0, y1⟩ := hw; go_simp; (try rw [if_neg (by omega)]); try with_reducible rfl); (try simp only [Act.put, zA, zB, zC]))
       refine wpSegs_run rfl (fun K hK => ?_)
       go_simp
       refine (rtext_any u1 _ hu).mono ?_
       rintro e vs28 ⟨rfl, q⟩
       obtain ⟨s28, hs28, hds28, hzs28⟩ : ∃ s28 : ByteArray, s28 = ⟨(Lib.itoa u1).toArray⟩ ∧ s28.data.toList = Lib.itoa u1 ∧ s28.size ≤ 21 := ⟨_, rfl, by simp, bz_le (itoa_len u1 hu)⟩
       rw [← hs28]
       clear hs28
       have hds28 := hZ hds28
       have hS2 := (show Blk vs28 bt 28 #[.int .u8 kn, .int .i64 rq, .string str, .int .i64 qt, .int .i64 dy, .int .i64 dz, .int .i64 rk, .int .i64 lo, .int .i64 ln, .slice (some ⟨bl, off, none⟩) Pn Pc, .slice QA On Oc] ∧ vs28.cell? ⟨bl, off + j * 2, none⟩ = some (.string u) ∧ vs28.cell? ⟨bl, off + j * 2 + 1, none⟩ = some (.int .i64 u1) from ⟨hS.1.turned q (fun e => e), cell_turned q hS.2.1 (fun e => e), cell_turned q hS.2.2 (fun e => e)⟩)
       refine hK.out _ _ hS2 ?_
       clear hK K
       have TX := hZ (TX.out.and_ q)
       clear q hS
       have hS := hS2
       clear hS2
       (try simp only [Act.put, zA, zB, zC])
       have hbz : (s27 ++ s28).size ≤ 64 + 300 * pos + 36 * j + 1 + 12 + 1 + 21 := by rw [ByteArray.size_append]; omega
       (refine wpSegs_take (v := ?_) hS rfl (fun w' hw => ?_) ?_; rotate_left; (obtain ⟨x0, x1, x2, x3, x4, x5, x6, x7, x8, x9, x10⟩ := Blk.cells11 hw.1; obtain ⟨-, y0, y1⟩ := hw; go_simp; (try rw [if_neg (by omega)]); try with_reducible rfl); (try simp only [Act.put, zA, zB, zC]))
       obtain ⟨s29, hs29⟩ : ∃ s29, s27 ++ s28 = s29 := ⟨_, rfl⟩
       rw [hs29]
       have hzs29 : s29.size ≤ 64 + 300 * pos + 36 * j + 1 + 12 + 1 + 21 := by rw [← hs29]; exact hbz
       have hds29 := hZ (show s29.data.toList = ((((p9.data.toList ++ [32]) ++ u.data.toList) ++ [32]) ++ (Lib.itoa u1)) from by rw [← hs29, bapp, hds27.out, hds28.out])
       clear hs29 hbz
       (refine wpSegs_take (v := ?_) hS rfl (fun w' hw => ?_) ?_; rotate_left; (obtain ⟨x0, x1, x2, x3, x4, x5, x6, x7, x8, x9, x10⟩ := Blk.cells11 hw.1; obtain ⟨-, y0, y1⟩ := hw; go_simp; (try rw [if_neg (by omega)]); try with_reducible rfl); (try simp only [Act.put, zA, zB, zC]))
       refine wpSegs_nil ?_
       have hd8 := hZ (show s29.data.toList = s.data.toList ++ each32 ((parts.take (j + 1)).flatMap (fun p => [p.1, Lib.itoa p.2])) from by rw [hm.out, each32_append, ← List.append_assoc, ← hd9.out, hds29.out, hud.out]; simp [each32])
       have hz8 : s29.size ≤ 64 + 300 * pos + 36 * (j + 1) := by omega
       clear hd9 hds25 hds26 hds27 hds29 hds28
       generalize s29 = t8 at *
       have B3 := hZ hS.1
       clear hS
       go_wp2_with fail
       go_roundw
       case rel => exact ⟨j + 1, _, hlt, by go_num, rfl, hd8.out, hz8, B3.out, TX.out⟩
       case measure => simp [intOf] <;> omega
      ·have hge : (Pn : Int) ≤ (j : Int) := by omega
       have hd8 := hZ (show p9.data.toList = s.data.toList ++ each32 (parts.flatMap (fun p => [p.1, Lib.itoa p.2])) from by have h9 := hd9.out; rw [List.take_of_length_le (by rw [hPl.out]; omega)] at h9; exact h9)
       obtain ⟨x0, x1, x2, x3, x4, x5, x6, x7, x8, x9, x10⟩ := B2.out.cells11
       go_wp2_with fail
       go_roundw
       case rel => exact ⟨pos + 1, _, hpl, by go_num, rfl, by show (p9).data.toList = each32 (ws3 ++ (f.take (pos + 1)).flatMap (fieldW ⟨(kn : Int), rq, it, qt, dy, dz, rk, lo, ln, parts, others⟩)); rw [htk.out, flat_snoc, show fieldW ⟨(kn : Int), rq, it, qt, dy, dz, rk, lo, ln, parts, others⟩ 112 = parts.flatMap (fun p => [p.1, Lib.itoa p.2]) from rfl, ← List.append_assoc, each32_append (ws3 ++ (f.take pos).flatMap (fieldW ⟨(kn : Int), rq, it, qt, dy, dz, rk, lo, ln, parts, others⟩)), ← hds.out]; exact hd8.out, by omega, B2.out, T2.out⟩
       case measure => simp [intOf] <;> omega
    ·have hob := hZ (othersB_mem (show othersB others it = true from hok.out))
     have hOl := hZ (show others.length = On from hI.out.others.len)
     have hO4 : On ≤ 4 := by have := hob.out.1; have := hOl.out; omega
     go_wp2_with fail
     have hst2 := hZ (show RtRel 28 On w bt #[.int .u8 kn, .int .i64 rq, .string str, .int .i64 qt, .int .i64 dy, .int .i64 dz, .int .i64 rk, .int .i64 lo, .int .i64 ln, .slice PA Pn Pc, .slice QA On Oc] (fun j => s.data.toList ++ each32 (others.take j)) (64 + 300 * pos) 13 (.string s) (.int .i64 0) wr from ⟨0, _, Nat.zero_le _, rfl, rfl, by simp [each32], by omega, B2.out, T2.out⟩)
     clear B2 T2 x0 x1 x2 x3 x4 x5 x6 x7 x8 x9 x10
     go_loopw [6, 9] (fun v i wr => RtRel 28 On w bt #[.int .u8 kn, .int .i64 rq, .string str, .int .i64 qt, .int .i64 dy, .int .i64 dz, .int .i64 rk, .int .i64 lo, .int .i64 ln, .slice PA Pn Pc, .slice QA On Oc] (fun j => s.data.toList ++ each32 (others.take j)) (64 + 300 * pos) 13 v i wr) (fun _ i _ => On - (intOf i).toNat)
     case atStart => exact hst2.out
     case round =>
      obtain ⟨j, p9, hj, rfl, rfl, hd0, hz0, hB0, hT0⟩ := hrel
      clear hst2
      have hd9 := hZ (show p9.data.toList = s.data.toList ++ each32 (others.take j) from hd0)
      have B2 := hZ hB0
      have T2 := hZ hT0
      clear hd0 hB0 hT0
      by_cases hlt : j < On
      ·have hji : (j : Int) < (On : Int) := by omega
       obtain ⟨bl, off, hA, hc⟩ := (hI.out.others.fresh T2.out).cells (show 0 < On by omega)
       simp only at hA
       subst hA
       have q0 := hc j hlt
       unfold strV at q0
       have hjl := hZ (show j < others.length by rw [hOl.out]; exact hlt)
       have hm := hZ (show others.take (j + 1) = others.take j ++ [others.getD j []] from by rw [List.take_succ_eq_append_getElem hjl.out]; simp [List.getD_eq_getElem?_getD, hjl.out])
       have hci := codeL_len (hob.out.2 (others.getD j []) (by rw [List.getD_eq_getElem?_getD, List.getElem?_eq_getElem hjl.out]; exact List.getElem_mem hjl.out))
       clear hc
       generalize others.getD j [] = U at *
       have hud := hZ (show (⟨U.toArray⟩ : ByteArray).data.toList = U from by simp)
       have huz : (⟨U.toArray⟩ : ByteArray).size ≤ 12 := bz_le (by omega)
       generalize (⟨U.toArray⟩ : ByteArray) = u at *
       have hbz : (p9 ++ (⟨#[32]⟩ : ByteArray)).size ≤ 64 + 300 * pos + 13 * j + 1 := by rw [ByteArray.size_append]; have := (show (⟨#[32]⟩ : ByteArray).size = 1 from rfl); omega
       have hbz2 : (p9 ++ (⟨#[32]⟩ : ByteArray) ++ u).size ≤ 64 + 300 * pos + 13 * j + 1 + 12 := by rw [ByteArray.size_append]; omega
       obtain ⟨x0, x1, x2, x3, x4, x5, x6, x7, x8, x9, x10⟩ := B2.out.cells11
       go_wp2_with fail
       go_roundw
       case rel => exact ⟨j + 1, _, hlt, by go_num, rfl, by show (p9 ++ (⟨#[32]⟩ : ByteArray) ++ u).data.toList = s.data.toList ++ each32 (others.take (j + 1)); rw [hm.out, bapp, bapp, hd9.out, hud.out, each32_append, List.append_assoc, List.append_assoc]; simp [each32], by omega, B2.out, T2.out⟩
       case measure => simp [intOf] <;> omega
      ·have hge : (On : Int) ≤ (j : Int) := by omega
       have hd8 := hZ (show p9.data.toList = s.data.toList ++ each32 others from by have h9 := hd9.out; rw [List.take_of_length_le (by rw [hOl.out]; omega)] at h9; exact h9)
       obtain ⟨x0, x1, x2, x3, x4, x5, x6, x7, x8, x9, x10⟩ := B2.out.cells11
       go_wp2_with fail
       go_roundw
       case rel => exact ⟨pos + 1, _, hpl, by go_num, rfl, by show (p9).data.toList = each32 (ws3 ++ (f.take (pos + 1)).flatMap (fieldW ⟨(kn : Int), rq, it, qt, dy, dz, rk, lo, ln, parts, others⟩)); rw [htk.out, flat_snoc, show fieldW ⟨(kn : Int), rq, it, qt, dy, dz, rk, lo, ln, parts, others⟩ 111 = others from rfl, ← List.append_assoc, each32_append (ws3 ++ (f.take pos).flatMap (fieldW ⟨(kn : Int), rq, it, qt, dy, dz, rk, lo, ln, parts, others⟩)), ← hds.out]; exact hd8.out, by omega, B2.out, T2.out⟩
       case measure => simp [intOf] <;> omega
   ·have hpe : pos = f.length := by rw [fBA_size] at hp; omega
    have hge : (f.length : Int) ≤ (pos : Int) := by omega
    have hge2 : ((fBA f).size : Int) ≤ (pos : Int) := by omega
    obtain ⟨x0, x1, x2, x3, x4, x5, x6, x7, x8, x9, x10⟩ := B2.out.cells11
    go_wp2_with fail
    go_ret
    refine ⟨congrArg (fun s => Ending.returned (.string s)) (ba_is ?_), T2.out⟩
    rw [hds.out, hpe, List.take_length]
    have e : asksW ⟨(kn : Int), rq, it, qt, dy, dz, rk, lo, ln, parts, others⟩ = ws3 ++ f.flatMap (fieldW ⟨(kn : Int), rq, it, qt, dy, dz, rk, lo, ln, parts, others⟩) := by
     unfold asksW
     rw [if_pos hr'.out, hff.out, hws3h.out, hvt.out]
     simp
    rw [e]
end Go.Proofs.YtglojnmcbochaaaGreatDoor

