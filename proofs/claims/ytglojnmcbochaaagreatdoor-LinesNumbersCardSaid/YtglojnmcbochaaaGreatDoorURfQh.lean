/-
 ytglojnmcbochaaagreatdoor: laws and walks on the road to LinesNumbers, joined: RtE NmA RfQh. Conditions stand at each theorem.
-/
import Derived.Test.YtglojnmcbochaaaGreatDoorURtD
import Derived.Test.YtglojnmcbochaaaGreatDoorUWrD
import Derived.Test.YtglojnmcbochaaaGreatDoorUNmP
import Derived.Test.YtglojnmcbochaaaGreatDoorUAskEh
import Derived.Test.YtglojnmcbochaaaGreatDoorURdSh
import Derived.Test.YtglojnmcbochaaaGreatDoorUAskE
import Derived.Test.YtglojnmcbochaaaGreatDoorUAskS
namespace Go.Proofs.YtglojnmcbochaaaGreatDoor
open Go.RowKit Go.Maps
set_option linter.unusedVariables false
set_option linter.unusedSimpArgs false

theorem each32_le {ws : WS} {n : Nat} (h : ∀ p ∈ ws, p.length ≤ 21) (hn : ws.length ≤ n) : (each32 ws).length ≤ 22 * n := by
 have : ∀ ws : WS, (∀ p ∈ ws, p.length ≤ 21) → (each32 ws).length ≤ 22 * ws.length := by
  intro ws
  induction ws with
  | nil => intro _; exact Nat.zero_le _
  | cons p ws ih =>
   intro h
   rw [each32_cons]
   have h1 := h p (by simp)
   have h2 := ih (fun q hq => h q (by simp [hq]))
   simp only [List.length_append, List.length_cons]
   omega
 have := this ws h
 omega
theorem told_asks {t : TaleV} (h : t.kind = 1) : toldL t = Lib.itoa t.at_ ++ each32 ([97, 115, 107, 115] :: Lib.itoa t.session :: asksW t.ask) := by
 unfold toldL toldW
 rw [if_pos h, join32]
 rfl
theorem told_tells {t : TaleV} (h : t.kind = 2) : toldL t = Lib.itoa t.at_ ++ each32 ([116, 101, 108, 108, 115] :: Lib.itoa t.session :: tellsW t.tell) := by
 unfold toldL toldW
 rw [if_neg (by omega), if_pos h, join32]
 rfl
theorem told_down {t : TaleV} (h : t.kind = 3) : toldL t = Lib.itoa t.at_ ++ each32 [[100, 111, 119, 110]] := by
 unfold toldL toldW
 rw [if_neg (by omega), if_neg (by omega), if_pos h, join32]
 rfl
theorem told_open {t : TaleV} (h : t.kind = 4) : toldL t = Lib.itoa t.at_ ++ each32 [[111, 112, 101, 110]] := by
 unfold toldL toldW
 rw [if_neg (by omega), if_neg (by omega), if_neg (by omega), if_pos h, join32]
 rfl
theorem told_none {t : TaleV} (h1 : ¬ t.kind = 1) (h2 : ¬ t.kind = 2) (h3 : ¬ t.kind = 3) (h4 : ¬ t.kind = 4) : toldL t = Lib.itoa t.at_ ++ each32 [[110, 111, 110, 101]] := by
 unfold toldL toldW
 rw [if_neg h1, if_neg h2, if_neg h3, if_neg h4, join32]
 rfl
set_option maxRecDepth 100000 in
set_option maxHeartbeats 16000000 in
theorem rtold_any (t : TaleV) (SA : AskS) (ST : TellS) (w : World) (hA0 : AskIs w t.ask SA) (hT0 : TellIs w t.tell ST) (hok : t.Ok) : Calls Tryz.prog 15 #[.agg (taleC t SA ST)] w (StrNew (toldL t) w) := by
 have mixed : Tryz.prog.follows .mixedOrders = true := by kernel_rfl
 obtain ⟨tk, at_, ses, ⟨kd, rq, it, qt, dy, dz, rk, lo, ln, parts, others⟩, ⟨er, id, ty, cd, st, lots, uses⟩⟩ := t
 obtain ⟨⟨PA, Pn, Pc⟩, ⟨QA, On, Oc⟩⟩ := SA
 obtain ⟨⟨LA, Ln, Lc⟩, ⟨UA, Un, Uc⟩⟩ := ST
 have hA := hZ hA0
 have hT := hZ hT0
 have hAo := hZ hok.ask
 have hTo := hZ hok.tell
 have hOs := hok.session
 have hOa := hok.at_
 have hkb := hok.kind
 unfold isByte at hkb
 simp only at hkb hOs hOa
 clear hA0 hT0 hok
 unfold taleC strV
 simp only
 go_enter Tryz.func15, Tryz.ntmps15
 go_upto_region 1 with fail
 have tb := (Turned.refl (fun _ => False) w).alloc (.cells #[.int .u8 tk, .int .i64 at_, .int .i64 ses, .int .u8 kd, .int .i64 rq, .string ⟨it.toArray⟩, .int .i64 qt, .int .i64 dy, .int .i64 dz, .int .i64 rk, .int .i64 lo, .int .i64 ln, .slice PA Pn Pc, .slice QA On Oc, .int .i64 er, .int .i64 id, .int .i64 ty, .string ⟨cd.toArray⟩, .int .u8 st, .slice LA Ln Lc, .slice UA Un Uc] 44)
 have hB0 := Blk.new w 44 #[.int .u8 tk, .int .i64 at_, .int .i64 ses, .int .u8 kd, .int .i64 rq, .string ⟨it.toArray⟩, .int .i64 qt, .int .i64 dy, .int .i64 dz, .int .i64 rk, .int .i64 lo, .int .i64 ln, .slice PA Pn Pc, .slice QA On Oc, .int .i64 er, .int .i64 id, .int .i64 ty, .string ⟨cd.toArray⟩, .int .u8 st, .slice LA Ln Lc, .slice UA Un Uc]
 obtain ⟨W0, hW0⟩ : ∃ W0, W0 = w.alloc (.cells #[.int .u8 tk, .int .i64 at_, .int .i64 ses, .int .u8 kd, .int .i64 rq, .string ⟨it.toArray⟩, .int .i64 qt, .int .i64 dy, .int .i64 dz, .int .i64 rk, .int .i64 lo, .int .i64 ln, .slice PA Pn Pc, .slice QA On Oc, .int .i64 er, .int .i64 id, .int .i64 ty, .string ⟨cd.toArray⟩, .int .u8 st, .slice LA Ln Lc, .slice UA Un Uc] 44) := ⟨_, rfl⟩
 rw [← hW0] at tb hB0 ⊢
 clear hW0
 obtain ⟨bt, hbt⟩ : ∃ bt, w.heap.size = bt := ⟨_, rfl⟩
 rw [hbt] at hB0 ⊢
 clear hbt
 have T0 := hZ tb
 have B0 := hZ hB0
 obtain ⟨x0, x1, x2, x3, x4, x5, x6, x7, x8, x9, x10, x11, x12, x13, x14, x15, x16, x17, x18, x19, x20⟩ := hB0.cells21
 clear hB0 tb
 go_wp2_with fail
 refine (rtext_any at_ _ hOa).mono ?_
 rintro e W1 ⟨rfl, q⟩
 have T1 := hZ (T0.out.and_ q)
 have B1 := hZ (B0.out.turned q (fun e => e))
 clear q T0 B0 x0 x1 x2 x3 x4 x5 x6 x7 x8 x9 x10 x11 x12 x13 x14 x15 x16 x17 x18 x19 x20
 obtain ⟨s0, hs0, hd00, hz0⟩ : ∃ s0 : ByteArray, s0 = ⟨(Lib.itoa at_).toArray⟩ ∧ s0.data.toList = Lib.itoa at_ ∧ s0.size ≤ 21 := ⟨_, rfl, by simp, bz_le (itoa_len at_ hOa)⟩
 rw [← hs0]
 have hd0 := hZ hd00
 clear hs0 hd00
 obtain ⟨x0, x1, x2, x3, x4, x5, x6, x7, x8, x9, x10, x11, x12, x13, x14, x15, x16, x17, x18, x19, x20⟩ := B1.out.cells21
 go_upto_region 3 with fail
 by_cases n1 : tk = 1
 ·subst n1
  have hAs := hZ (fun W (x : Turned (fun _ => False) w W) => rasks_any ⟨kd, rq, it, qt, dy, dz, rk, lo, ln, parts, others⟩ ⟨⟨PA, Pn, Pc⟩, ⟨QA, On, Oc⟩⟩ W (hA.out.fresh x) hAo.out)
  unfold askC strV at hAs
  simp only at hAs
  have haz := each32_le (asks_short hAo.out).2 (asks_short hAo.out).1
  obtain ⟨aw, haw0⟩ : ∃ aw, asksW ⟨kd, rq, it, qt, dy, dz, rk, lo, ln, parts, others⟩ = aw := ⟨_, rfl⟩
  rw [haw0] at hAs haz
  have haw := hZ haw0
  clear haw0
  go_upto_region 4 with fail
  refine wp_region_segs (fun w' => Blk w' bt 44 #[.int .u8 1, .int .i64 at_, .int .i64 ses, .int .u8 kd, .int .i64 rq, .string ⟨it.toArray⟩, .int .i64 qt, .int .i64 dy, .int .i64 dz, .int .i64 rk, .int .i64 lo, .int .i64 ln, .slice PA Pn Pc, .slice QA On Oc, .int .i64 er, .int .i64 id, .int .i64 ty, .string ⟨cd.toArray⟩, .int .u8 st, .slice LA Ln Lc, .slice UA Un Uc]) (segT [0, 1, 2, 3, 6, 7] ++ segF [4] ++ segT [5] ++ segF [8] ++ segT [9, 10]) mixed (by kernel_rfl) (fun _ _ _ _ _ h => h) ?_
  simp only [segT, segF, pickSegs, zF, List.map_nil, zG, zH, List.filterMap_cons, List.filterMap_nil, zI, zJ, Option.map_some]
  have q := (Turned.refl (fun _ => False) W1).drew
  have hS : Blk W1.drew bt 44 #[.int .u8 1, .int .i64 at_, .int .i64 ses, .int .u8 kd, .int .i64 rq, .string ⟨it.toArray⟩, .int .i64 qt, .int .i64 dy, .int .i64 dz, .int .i64 rk, .int .i64 lo, .int .i64 ln, .slice PA Pn Pc, .slice QA On Oc, .int .i64 er, .int .i64 id, .int .i64 ty, .string ⟨cd.toArray⟩, .int .u8 st, .slice LA Ln Lc, .slice UA Un Uc] := B1.out.drew
  have TX := hZ (T1.out.and_ q)
  clear q T1 B1 x0 x1 x2 x3 x4 x5 x6 x7 x8 x9 x10 x11 x12 x13 x14 x15 x16 x17 x18 x19 x20
  generalize W1.drew = W2 at *
  (refine wpSegs_take (v := ?_) hS rfl (fun w' hw => ?_) ?_; rotate_left; (obtain ⟨x0, x1, x2, x3, x4, x5, x6, x7, x8, x9, x10, x11, x12, x13, x14, x15, x16, x17, x18, x19, x20⟩ := Blk.cells21 hw; go_simp; (try rw [if_neg (by omega)]); try with_reducible rfl); (try simp only [Act.put, zA, zB, zC]))
  have hbz : (s0 ++ (⟨#[32, 97, 115, 107, 115]⟩ : ByteArray)).size ≤ 21 + 5 := by rw [ByteArray.size_append]; have := (show (⟨#[32, 97, 115, 107, 115]⟩ : ByteArray).size = 5 from rfl); omega
  (refine wpSegs_take (v := ?_) hS rfl (fun w' hw => ?_) ?_; rotate_left; (obtain ⟨x0, x1, x2, x3, x4, x5, x6, x7, x8, x9, x10, x11, x12, x13, x14, x15, x16, x17, x18, x19, x20⟩ := Blk.cells21 hw; go_simp; (try rw [if_neg (by omega)]); try with_reducible rfl); (try simp only [Act.put, zA, zB, zC]))
  obtain ⟨s30, hs30⟩ : ∃ s30, s0 ++ (⟨#[32, 97, 115, 107, 115]⟩ : ByteArray) = s30 := ⟨_, rfl⟩
  rw [hs30]
  have hzs30 : s30.size ≤ 21 + 5 := by rw [← hs30]; exact hbz
  have hds30 := hZ (show s30.data.toList = (s0.data.toList ++ [32, 97, 115, 107, 115]) from by rw [← hs30, bapp])
  clear hs30 hbz
  iterate 4 (refine wpSegs_take (v := ?_) hS rfl (fun w' hw => ?_) ?_; rotate_left; (obtain ⟨x0, x1, x2, x3, x4, x5, x6, x7, x8, x9, x10, x11, x12, x13, x14, x15, x16, x17, x18, x19, x20⟩ := Blk.cells21 hw; go_simp; (try rw [if_neg (by omega)]); try with_reducible rfl); (try simp only [Act.put, zA, zB, zC]))
  refine wpSegs_run rfl (fun K hK => ?_)
  go_simp
  refine (rtext32_any ses _ hOs).mono ?_
  rintro e vs31 ⟨rfl, q⟩
  obtain ⟨s31, hs31, hds31, hzs31⟩ : ∃ s31 : ByteArray, s31 = ⟨(32 :: Lib.itoa ses).toArray⟩ ∧ s31.data.toList = 32 :: Lib.itoa ses ∧ s31.size ≤ 22 := ⟨_, rfl, by simp, bz_le (by have := itoa_len ses hOs; simp only [List.length_cons]; omega)⟩
  rw [← hs31]
  clear hs31
  have hds31 := hZ hds31
  have hS2 := hS.turned q (fun e => e)
  refine hK.out _ _ hS2 ?_
  clear hK K
  have TX := hZ (TX.out.and_ q)
  clear q hS
  have hS := hS2
  clear hS2
  (try simp only [Act.put, zA, zB, zC])
  have hbz : (s30 ++ s31).size ≤ 21 + 5 + 22 := by rw [ByteArray.size_append]; omega
  (refine wpSegs_take (v := ?_) hS rfl (fun w' hw => ?_) ?_; rotate_left; (obtain ⟨x0, x1, x2, x3, x4, x5, x6, x7, x8, x9, x10, x11, x12, x13, x14, x15, x16, x17, x18, x19, x20⟩ := Blk.cells21 hw; go_simp; (try rw [if_neg (by omega)]); try with_reducible rfl); (try simp only [Act.put, zA, zB, zC]))
  obtain ⟨s32, hs32⟩ : ∃ s32, s30 ++ s31 = s32 := ⟨_, rfl⟩
  rw [hs32]
  have hzs32 : s32.size ≤ 21 + 5 + 22 := by rw [← hs32]; exact hbz
  have hds32 := hZ (show s32.data.toList = ((s0.data.toList ++ [32, 97, 115, 107, 115]) ++ (32 :: Lib.itoa ses)) from by rw [← hs32, bapp, hds30.out, hds31.out])
  clear hs32 hbz
  refine wpSegs_run rfl (fun K hK => ?_)
  go_simp
  refine (hAs.out _ TX.out).mono ?_
  rintro e vs33 ⟨rfl, q⟩
  obtain ⟨s33, hs33, hds33, hzs33⟩ : ∃ s33 : ByteArray, s33 = ⟨(each32 aw).toArray⟩ ∧ s33.data.toList = each32 aw ∧ s33.size ≤ 2200 := ⟨_, rfl, by simp, bz_le haz⟩
  rw [← hs33]
  clear hs33
  have hds33 := hZ hds33
  have hS2 := hS.turned q (fun e => e)
  refine hK.out _ _ hS2 ?_
  clear hK K
  have TX := hZ (TX.out.and_ q)
  clear q hS
  have hS := hS2
  clear hS2
  (try simp only [Act.put, zA, zB, zC])
  have hbz : (s32 ++ s33).size ≤ 21 + 5 + 22 + 2200 := by rw [ByteArray.size_append]; omega
  (refine wpSegs_take (v := ?_) hS rfl (fun w' hw => ?_) ?_; rotate_left; (obtain ⟨x0, x1, x2, x3, x4, x5, x6, x7, x8, x9, x10, x11, x12, x13, x14, x15, x16, x17, x18, x19, x20⟩ := Blk.cells21 hw; go_simp; (try rw [if_neg (by omega)]); try with_reducible rfl); (try simp only [Act.put, zA, zB, zC]))
  obtain ⟨s34, hs34⟩ : ∃ s34, s32 ++ s33 = s34 := ⟨_, rfl⟩
  rw [hs34]
  have hzs34 : s34.size ≤ 21 + 5 + 22 + 2200 := by rw [← hs34]; exact hbz
  have hds34 := hZ (show s34.data.toList = (((s0.data.toList ++ [32, 97, 115, 107, 115]) ++ (32 :: Lib.itoa ses)) ++ (each32 aw)) from by rw [← hs34, bapp, hds32.out, hds33.out])
  clear hs34 hbz
  (refine wpSegs_take (v := ?_) hS rfl (fun w' hw => ?_) ?_; rotate_left; (obtain ⟨x0, x1, x2, x3, x4, x5, x6, x7, x8, x9, x10, x11, x12, x13, x14, x15, x16, x17, x18, x19, x20⟩ := Blk.cells21 hw; go_simp; (try rw [if_neg (by omega)]); try with_reducible rfl); (try simp only [Act.put, zA, zB, zC]))
  refine wpSegs_nil ?_
  have hd9 := hZ (show s34.data.toList = Lib.itoa at_ ++ each32 ([97, 115, 107, 115] :: Lib.itoa ses :: aw) from by rw [hds34.out, hd0.out, each32_cons, each32_cons]; simp)
  clear hd0 hds30 hds32 hds34 hds31 hds33
  generalize s34 = p9 at *
  clear hS
  go_wp2_with fail
  go_ret
  refine ⟨congrArg (fun s => Ending.returned (.string s)) (ba_is ?_), TX.out⟩
  rw [hd9.out, told_asks rfl]
  rw [haw.out]
 by_cases n2 : tk = 2
 ·subst n2
  have hAs := hZ (fun W (x : Turned (fun _ => False) w W) => rtells_any ⟨er, id, ty, cd, st, lots, uses⟩ ⟨⟨LA, Ln, Lc⟩, ⟨UA, Un, Uc⟩⟩ W (hT.out.fresh x) hTo.out)
  unfold tellC strV at hAs
  simp only at hAs
  have haz := each32_le (tells_short hTo.out).2 (tells_short hTo.out).1
  obtain ⟨aw, haw0⟩ : ∃ aw, tellsW ⟨er, id, ty, cd, st, lots, uses⟩ = aw := ⟨_, rfl⟩
  rw [haw0] at hAs haz
  have haw := hZ haw0
  clear haw0
  go_upto_region 6 with fail
  refine wp_region_segs (fun w' => Blk w' bt 44 #[.int .u8 2, .int .i64 at_, .int .i64 ses, .int .u8 kd, .int .i64 rq, .string ⟨it.toArray⟩, .int .i64 qt, .int .i64 dy, .int .i64 dz, .int .i64 rk, .int .i64 lo, .int .i64 ln, .slice PA Pn Pc, .slice QA On Oc, .int .i64 er, .int .i64 id, .int .i64 ty, .string ⟨cd.toArray⟩, .int .u8 st, .slice LA Ln Lc, .slice UA Un Uc]) (segT [0, 1, 2, 3, 6, 7] ++ segF [4] ++ segT [5] ++ segF [8] ++ segT [9, 10]) mixed (by kernel_rfl) (fun _ _ _ _ _ h => h) ?_
  simp only [segT, segF, pickSegs, zF, List.map_nil, zG, zH, List.filterMap_cons, List.filterMap_nil, zI, zJ, Option.map_some]
  have q := (Turned.refl (fun _ => False) W1).drew
  have hS : Blk W1.drew bt 44 #[.int .u8 2, .int .i64 at_, .int .i64 ses, .int .u8 kd, .int .i64 rq, .string ⟨it.toArray⟩, .int .i64 qt, .int .i64 dy, .int .i64 dz, .int .i64 rk, .int .i64 lo, .int .i64 ln, .slice PA Pn Pc, .slice QA On Oc, .int .i64 er, .int .i64 id, .int .i64 ty, .string ⟨cd.toArray⟩, .int .u8 st, .slice LA Ln Lc, .slice UA Un Uc] := B1.out.drew
  have TX := hZ (T1.out.and_ q)
  clear q T1 B1 x0 x1 x2 x3 x4 x5 x6 x7 x8 x9 x10 x11 x12 x13 x14 x15 x16 x17 x18 x19 x20
  generalize W1.drew = W2 at *
  (refine wpSegs_take (v := ?_) hS rfl (fun w' hw => ?_) ?_; rotate_left; (obtain ⟨x0, x1, x2, x3, x4, x5, x6, x7, x8, x9, x10, x11, x12, x13, x14, x15, x16, x17, x18, x19, x20⟩ := Blk.cells21 hw; go_simp; (try rw [if_neg (by omega)]); try with_reducible rfl); (try simp only [Act.put, zA, zB, zC]))
  have hbz : (s0 ++ (⟨#[32, 116, 101, 108, 108, 115]⟩ : ByteArray)).size ≤ 21 + 6 := by rw [ByteArray.size_append]; have := (show (⟨#[32, 116, 101, 108, 108, 115]⟩ : ByteArray).size = 6 from rfl); omega
  (refine wpSegs_take (v := ?_) hS rfl (fun w' hw => ?_) ?_; rotate_left; (obtain ⟨x0, x1, x2, x3, x4, x5, x6, x7, x8, x9, x10, x11, x12, x13, x14, x15, x16, x17, x18, x19, x20⟩ := Blk.cells21 hw; go_simp; (try rw [if_neg (by omega)]); try with_reducible rfl); (try simp only [Act.put, zA, zB, zC]))
  obtain ⟨s35, hs35⟩ : ∃ s35, s0 ++ (⟨#[32, 116, 101, 108, 108, 115]⟩ : ByteArray) = s35 := ⟨_, rfl⟩
  rw [hs35]
  have hzs35 : s35.size ≤ 21 + 6 := by rw [← hs35]; exact hbz
  have hds35 := hZ (show s35.data.toList = (s0.data.toList ++ [32, 116, 101, 108, 108, 115]) from by rw [← hs35, bapp])
  clear hs35 hbz
  iterate 4 (refine wpSegs_take (v := ?_) hS rfl (fun w' hw => ?_) ?_; rotate_left; (obtain ⟨x0, x1, x2, x3, x4, x5, x6, x7, x8, x9, x10, x11, x12, x13, x14, x15, x16, x17, x18, x19, x20⟩ := Blk.cells21 hw; go_simp; (try rw [if_neg (by omega)]); try with_reducible rfl); (try simp only [Act.put, zA, zB, zC]))
  refine wpSegs_run rfl (fun K hK => ?_)
  go_simp
  refine (rtext32_any ses _ hOs).mono ?_
  rintro e vs36 ⟨rfl, q⟩
  obtain ⟨s36, hs36, hds36, hzs36⟩ : ∃ s36 : ByteArray, s36 = ⟨(32 :: Lib.itoa ses).toArray⟩ ∧ s36.data.toList = 32 :: Lib.itoa ses ∧ s36.size ≤ 22 := ⟨_, rfl, by simp, bz_le (by have := itoa_len ses hOs; simp only [List.length_cons]; omega)⟩
  rw [← hs36]
  clear hs36
  have hds36 := hZ hds36
  have hS2 := hS.turned q (fun e => e)
  refine hK.out _ _ hS2 ?_
  clear hK K
  have TX := hZ (TX.out.and_ q)
  clear q hS
  have hS := hS2
  clear hS2
  (try simp only [Act.put, zA, zB, zC])
  have hbz : (s35 ++ s36).size ≤ 21 + 6 + 22 := by rw [ByteArray.size_append]; omega
  (refine wpSegs_take (v := ?_) hS rfl (fun w' hw => ?_) ?_; rotate_left; (obtain ⟨x0, x1, x2, x3, x4, x5, x6, x7, x8, x9, x10, x11, x12, x13, x14, x15, x16, x17, x18, x19, x20⟩ := Blk.cells21 hw; go_simp; (try rw [if_neg (by omega)]); try with_reducible rfl); (try simp only [Act.put, zA, zB, zC]))
  obtain ⟨s37, hs37⟩ : ∃ s37, s35 ++ s36 = s37 := ⟨_, rfl⟩
  rw [hs37]
  have hzs37 : s37.size ≤ 21 + 6 + 22 := by rw [← hs37]; exact hbz
  have hds37 := hZ (show s37.data.toList = ((s0.data.toList ++ [32, 116, 101, 108, 108, 115]) ++ (32 :: Lib.itoa ses)) from by rw [← hs37, bapp, hds35.out, hds36.out])
  clear hs37 hbz
  refine wpSegs_run rfl (fun K hK => ?_)
  go_simp
  refine (hAs.out _ TX.out).mono ?_
  rintro e vs38 ⟨rfl, q⟩
  obtain ⟨s38, hs38, hds38, hzs38⟩ : ∃ s38 : ByteArray, s38 = ⟨(each32 aw).toArray⟩ ∧ s38.data.toList = each32 aw ∧ s38.size ≤ 224400 := ⟨_, rfl, by simp, bz_le haz⟩
  rw [← hs38]
  clear hs38
  have hds38 := hZ hds38
  have hS2 := hS.turned q (fun e => e)
  refine hK.out _ _ hS2 ?_
  clear hK K
  have TX := hZ (TX.out.and_ q)
  clear q hS
  have hS := hS2
  clear hS2
  (try simp only [Act.put, zA, zB, zC])
  have hbz : (s37 ++ s38).size ≤ 21 + 6 + 22 + 224400 := by rw [ByteArray.size_append]; omega
  (refine wpSegs_take (v := ?_) hS rfl (fun w' hw => ?_) ?_; rotate_left; (obtain ⟨x0, x1, x2, x3, x4, x5, x6, x7, x8, x9, x10, x11, x12, x13, x14, x15, x16, x17, x18, x19, x20⟩ := Blk.cells21 hw; go_simp; (try rw [if_neg (by omega)]); try with_reducible rfl); (try simp only [Act.put, zA, zB, zC]))
  obtain ⟨s39, hs39⟩ : ∃ s39, s37 ++ s38 = s39 := ⟨_, rfl⟩
  rw [hs39]
  have hzs39 : s39.size ≤ 21 + 6 + 22 + 224400 := by rw [← hs39]; exact hbz
  have hds39 := hZ (show s39.data.toList = (((s0.data.toList ++ [32, 116, 101, 108, 108, 115]) ++ (32 :: Lib.itoa ses)) ++ (each32 aw)) from by rw [← hs39, bapp, hds37.out, hds38.out])
  clear hs39 hbz
  (refine wpSegs_take (v := ?_) hS rfl (fun w' hw => ?_) ?_; rotate_left; (obtain ⟨x0, x1, x2, x3, x4, x5, x6, x7, x8, x9, x10, x11, x12, x13, x14, x15, x16, x17, x18, x19, x20⟩ := Blk.cells21 hw; go_simp; (try rw [if_neg (by omega)]); try with_reducible rfl); (try simp only [Act.put, zA, zB, zC]))
  refine wpSegs_nil ?_
  have hd9 := hZ (show s39.data.toList = Lib.itoa at_ ++ each32 ([116, 101, 108, 108, 115] :: Lib.itoa ses :: aw) from by rw [hds39.out, hd0.out, each32_cons, each32_cons]; simp)
  clear hd0 hds35 hds37 hds39 hds36 hds38
  generalize s39 = p9 at *
  clear hS
  go_wp2_with fail
  go_ret
  refine ⟨congrArg (fun s => Ending.returned (.string s)) (ba_is ?_), TX.out⟩
  rw [hd9.out, told_tells rfl]
  rw [haw.out]
 by_cases n3 : tk = 3
 ·subst n3
  have hbz : (s0 ++ (⟨#[32, 100, 111, 119, 110]⟩ : ByteArray)).size ≤ 21 + 5 := by rw [ByteArray.size_append]; have := (show (⟨#[32, 100, 111, 119, 110]⟩ : ByteArray).size = 5 from rfl); omega
  go_wp2_with fail
  go_ret
  refine ⟨congrArg (fun s => Ending.returned (.string s)) (ba_is ?_), T1.out⟩
  rw [bapp, hd0.out, told_down rfl]
  rfl
 by_cases n4 : tk = 4
 ·subst n4
  have hbz : (s0 ++ (⟨#[32, 111, 112, 101, 110]⟩ : ByteArray)).size ≤ 21 + 5 := by rw [ByteArray.size_append]; have := (show (⟨#[32, 111, 112, 101, 110]⟩ : ByteArray).size = 5 from rfl); omega
  go_wp2_with fail
  go_ret
  refine ⟨congrArg (fun s => Ending.returned (.string s)) (ba_is ?_), T1.out⟩
  rw [bapp, hd0.out, told_open rfl]
  rfl
 have hbz : (s0 ++ (⟨#[32, 110, 111, 110, 101]⟩ : ByteArray)).size ≤ 21 + 5 := by rw [ByteArray.size_append]; have := (show (⟨#[32, 110, 111, 110, 101]⟩ : ByteArray).size = 5 from rfl); omega
 go_wp2_with fail
 go_ret
 refine ⟨congrArg (fun s => Ending.returned (.string s)) (ba_is ?_), T1.out⟩
 rw [bapp, hd0.out, told_none n1 n2 n3 n4]
 rfl
end Go.Proofs.YtglojnmcbochaaaGreatDoor

namespace Go.Proofs.YtglojnmcbochaaaGreatDoor
open Go.RowKit Go.Maps Go.Proofs
set_option linter.unusedVariables false
set_option linter.unusedSimpArgs false

structure NmVars (w : World) : Prop where
 ln : LnVars w
 tab : Lib.TabIs Tryz.prog w "strings.asciiSpace" .u8 Lib.asciiSpaceTab
theorem NmVars.fresh {w w' : World} (h : NmVars w) (ht : Turned (fun _ => False) w w') : NmVars w' := ⟨h.ln.fresh ht, var_turned (g := 0) h.tab (by kernel_rfl) ht⟩
def RowPost (l : WS) (w : World) (e : Ending) (w' : World) : Prop :=
 ∃ b c, e = .returned (.slice (some ⟨b, 0, none⟩) l.length c) ∧ RowE w' 9 1 b l.length c (textC l) ∧ w.heap.size ≤ b ∧ Turned (fun _ => False) w w'
def StrSome (w : World) (e : Ending) (w' : World) : Prop := ∃ s : ByteArray, e = .returned (.string s) ∧ Turned (fun _ => False) w w'
theorem sfields_any (s : ByteArray) (w : World) (ht : Lib.TabIs Tryz.prog w "strings.asciiSpace" .u8 Lib.asciiSpaceTab) (hs : s.size ≤ 1000) (ha : ∀ b ∈ s.data.toList, b.toNat < 128) (hl : (Lib.fields s.data.toList).length ≤ 1000) :
  Calls Tryz.prog 19 #[.string s] w (RowPost (Lib.fields s.data.toList) w) :=
 (Any.strings_Fields Tryz.lays157 (by kernel_rfl) (by kernel_rfl) s w (by omega) (fun j b h => ha b (List.mem_of_getElem? h)) ht).mono fun e w' ⟨he, hw⟩ => by
  refine ⟨w.heap.size, (Lib.fields s.data.toList).length, he, ?_, Nat.le_refl _, ?_⟩
  ·rw [hw]
   have := RowE.new w 9 1 (Lib.fields s.data.toList).length ((Lib.fields s.data.toList).map fun l => Value.string ⟨l.toArray⟩).toArray (by simp) (by unfold maxLen; omega)
   exact this
  ·rw [hw]
   exact (Turned.refl _ w).alloc _
theorem join_short {l : WS} (h : ∀ p ∈ l, p.length ≤ 21) (hl : l.length ≤ 1000) : (Lib.join l [32]).length ≤ 140737488355328 := by
 cases l with
 | nil => simp [Lib.join]
 | cons p l =>
  rw [join32]
  have h1 := each32_le (ws := l) (fun q hq => h q (by simp [hq])) (by simp only [List.length_cons] at hl; omega : l.length ≤ 1000)
  have h2 := h p (by simp)
  unfold each32 at h1
  rw [List.length_append]
  omega
theorem join_some (b off n c : Nat) (l : WS) (w : World) (h : ∀ i, i < n → w.cell? ⟨b, off + i, none⟩ = some (strV (l.getD i []))) (hb : b < w.heap.size) (hl : l.length = n) (hc : n ≤ c) (hn : n ≤ 1000) (h21 : ∀ p ∈ l, p.length ≤ 21) :
  Calls Tryz.prog 21 #[.slice (some ⟨b, off, none⟩) n c, .string ⟨#[32]⟩] w (StrSome w) := by
 have hxs : (l.map baOf).map (·.data.toList) = l := by
  rw [List.map_map]
  have : ((fun x : ByteArray => x.data.toList) ∘ baOf) = id := by
   funext x
   simp [baOf]
  rw [this, List.map_id]
 have := Any.strings_Join Tryz.lays156 builderJ b off c (l.map baOf) ⟨#[32]⟩ w (fun j x hx => by
  rw [List.getElem?_map, Option.map_eq_some_iff] at hx
  obtain ⟨y, hy, rfl⟩ := hx
  have hj : j < l.length := (List.getElem?_eq_some_iff.1 hy).1
  rw [h j (by omega), List.getD_eq_getElem?_getD, hy]
  rfl) hb (by rw [List.length_map]; omega) (by rw [List.length_map]; omega) (by rw [hxs]; exact join_short h21 (by omega))
 rw [List.length_map, hl] at this
 exact this.mono fun e w' ⟨he, hw⟩ => ⟨_, he, Turned.of_below hw _⟩
theorem builderN : Builder.Extra Tryz.prog Tryz.lays105_ren where
 sizeBuilder := by kernel_rfl
 liesBuilder := by kernel_rfl
 t5 := Tryz.lays105.t5
 a5 := Tryz.lays105.a5
 z5 := Tryz.lays105.z5
 v5 := Tryz.lays105.v5
 infoByte := by kernel_rfl
 cellsByte := by kernel_rfl
 sizeByte := by kernel_rfl
 neB5 := by decide
theorem blanks_any (n : Nat) (w : World) (hn : n ≤ 2000000) : Calls Tryz.prog 23 #[.string ⟨#[32]⟩, .int .i64 n] w (StrNew (List.replicate n 32) w) :=
 (Any.strings_Repeat Tryz.lays105 builderN ⟨#[32]⟩ n w (by omega) (by show 1 * n ≤ _; omega)).mono fun e w' ⟨he, hw⟩ => ⟨by
  rw [he]
  congr 2
  show (⟨(Lib.repeatL (List.replicate 1 32) n).toArray⟩ : ByteArray) = _
  rw [Lib.repeatL_replicate, Nat.mul_one], Turned.of_below hw _⟩
set_option maxRecDepth 100000 in
theorem copyT_any (b n c : Nat) (l : WS) (w : World) (h : RowE w 9 1 b n c (textC l)) (hl : l.length = n) (h0 : 0 < n) (hn : n ≤ 1000) :
  Calls Tryz.prog 22 #[.slice (some ⟨b, 0, none⟩) n c] w (RowPost l w) := by
 have hnews : ∀ j u, (textC l)[j]? = some u → w.cell? ((⟨b, 0, none⟩ : Addr).add j) = some u := fun j u hu => by
  rw [Addr.add_mid, Nat.zero_add]
  exact h.cell hu
 have hn' := hZ hnews
 have hlh := hZ hl
 clear h hnews
 go_enter Tryz.func22, Tryz.ntmps22
 go_wp2_with (at_builtin; refine wpList_appE textT rfl (.tmp 4) (.tmp 5) rfl (OwnE.nil w 9 1) ⟨b, 0, none⟩ n c (textC l) (by rw [textC_length, Nat.mul_one]; exact hlh.out) hn'.out (textC_one l) h0 (by unfold maxLen; omega) (by omega) rfl rfl ?_; intro A9 c9 W9 ho9 hor9)
 go_ret
 subst hl
 rw [zH] at ho9
 rcases hor9 with ⟨_, _, hne, _⟩ | ⟨rfl, ht⟩
 ·exact absurd rfl hne
 ·obtain ⟨g, hg, hr⟩ := ho9.some_ (by omega)
  injection hg with hg
  injection hg with hg
  subst hg
  exact ⟨_, c9, rfl, by rw [Nat.zero_add] at hr; exact hr, Nat.le_refl _, ht⟩
end Go.Proofs.YtglojnmcbochaaaGreatDoor

namespace Go.Proofs.YtglojnmcbochaaaGreatDoor
open Go.RowKit Go.Maps
set_option linter.unusedVariables false
set_option linter.unusedSimpArgs false

structure RqW (w : World) (br bx : Nat) (x : AskV) (S : AskS) (s : Sl) (ws : WS) (W : World) : Prop where
 sl : SlT W s ws
 mem : ∀ y ∈ ws, lenOk y
 old : ∀ b o, s.A = some ⟨b, o, none⟩ → b < w.heap.size
 aa : AskAt W bx x S
 own : AskOwn W w.heap.size x S
 ok : x.Ok
 res : Blk W br 28 #[.int .u8 0, .int .i64 0, .string ⟨#[]⟩, .int .i64 0, .int .i64 0, .int .i64 0, .int .i64 0, .int .i64 0, .int .i64 0, .slice none 0 0, .slice none 0 0]
 t : Turned (fun _ => False) w W
 pN : x.parts.length + ws.length ≤ 1000000
 oN : x.others.length + ws.length ≤ 1000000
 b1 : w.heap.size ≤ br
 b2 : br < bx
section
variable {w W W' : World} {br bx : Nat} {x x' : AskV} {S S' : AskS} {s s' : Sl} {ws ws' : WS}
theorem RqW.fresh (h : RqW w br bx x S s ws W) (ht : Turned (fun _ => False) W W') : RqW w br bx x S s ws W' :=
 ⟨h.sl.fresh ht, h.mem, h.old, h.aa.fresh ht, h.own.fresh ht, h.ok, h.res.turned ht (fun e => e), h.t.and_ ht, h.pN, h.oN, h.b1, h.b2⟩
theorem RqW.store (h : RqW w br bx x S s ws W) (i : Nat) (v : Value) (hx : (askC x S).setIfInBounds i v = askC x' S') (hp : AskOwn W w.heap.size x' S') (hk : x'.Ok) (hpN : x'.parts.length + ws.length ≤ 1000000) (hoN : x'.others.length + ws.length ≤ 1000000) : RqW w br bx x' S' s ws (W.setCell ⟨bx, i, none⟩ v) := by
 have tS : Turned (· = bx) W (W.setCell ⟨bx, i, none⟩ v) := turned_one _ _ _ _
 have g1 := h.b1
 have g2 := h.b2
 exact ⟨h.sl.turned tS (fun b o e k => by have := h.old b o e; omega), h.mem, h.old, by have := Blk.set_ h.aa i v; rw [hx] at this; exact this,
  ⟨hp.parts.turned tS (fun j e e2 => hp.parts.blk h.aa (by decide) e e2), hp.others.turned tS (fun j e e2 => hp.others.blk h.aa (by decide) e e2), hp.pB, hp.oB⟩, hk, h.res.turned tS (by omega), h.t.trans tS (fun _ e => e) (fun j e => .inr (by subst e; omega)), hpN, hoN, h.b1, h.b2⟩
theorem RqW.grow {V : Nat → Prop} (h : RqW w br bx x S s ws W) (ht : Turned V W W') (hV : ∀ i, V i → S.P.A = some ⟨i, 0, none⟩ ∨ S.O.A = some ⟨i, 0, none⟩) (i : Nat) (v : Value) (hx : (askC x S).setIfInBounds i v = askC x' S') (hp : AskOwn W' w.heap.size x' S') (hk : x'.Ok) (hpN : x'.parts.length + ws.length ≤ 1000000) (hoN : x'.others.length + ws.length ≤ 1000000) : RqW w br bx x' S' s ws (W'.setCell ⟨bx, i, none⟩ v) := by
 have g1 := h.b1
 have g2 := h.b2
 have hVB : ∀ i, V i → w.heap.size ≤ i := fun i e => by
  rcases hV i e with e | e
  ·exact h.own.pB i e
  ·exact h.own.oB i e
 have hVb : ∀ {g : Nat} {cs : Array Value}, Blk W g 28 cs → ¬ V g := fun hb e => by
  rcases hV _ e with e | e
  ·exact h.own.parts.blk hb (by decide) e rfl
  ·exact h.own.others.blk hb (by decide) e rfl
 have aa' := h.aa.turned ht (hVb h.aa)
 have tS : Turned (· = bx) W' (W'.setCell ⟨bx, i, none⟩ v) := turned_one _ _ _ _
 exact ⟨(h.sl.turned ht (fun b o e k => by have := h.old b o e; have := hVB b k; omega)).turned tS (fun b o e k => by have := h.old b o e; omega), h.mem, h.old, by have := Blk.set_ aa' i v; rw [hx] at this; exact this,
  ⟨hp.parts.turned tS (fun j e e2 => hp.parts.blk aa' (by decide) e e2), hp.others.turned tS (fun j e e2 => hp.others.blk aa' (by decide) e e2), hp.pB, hp.oB⟩, hk, (h.res.turned ht (hVb h.res)).turned tS (by omega), (h.t.trans ht (fun _ e => e) (fun j e => .inr (hVB j e))).trans tS (fun _ e => e) (fun j e => .inr (by subst e; omega)), hpN, hoN, h.b1, h.b2⟩
theorem RqW.cut (h : RqW w br bx x S s ws W) (k : Nat) (hs : SlT W s' (ws.drop k)) (ho : ∀ b o, s'.A = some ⟨b, o, none⟩ → b < w.heap.size) : RqW w br bx x S s' (ws.drop k) W :=
 ⟨hs, fun y hy => h.mem y (List.mem_of_mem_drop hy), ho, h.aa, h.own, h.ok, h.res, h.t, by have := h.pN; rw [List.length_drop]; omega, by have := h.oN; rw [List.length_drop]; omega, h.b1, h.b2⟩
end
theorem SlT.dropK {w : World} {b off n c : Nat} {ws : WS} (h : SlT w ⟨some ⟨b, off, none⟩, n, c⟩ ws) (k : Nat) (hk : k ≤ n) : SlT w ⟨some ⟨b, off + k, none⟩, n - k, c - k⟩ (ws.drop k) := by
 have hl := h.len
 have hle := h.le
 have hm := h.max
 simp only at hl hle hm
 refine ⟨⟨by rw [textC_length, List.length_drop]; simp only; omega, fun h0 => ?_⟩, by rw [List.length_drop]; simp only; omega, (fun e => by cases e), by simp only; omega, by simp only; omega⟩
 obtain ⟨b2, off2, e, hc⟩ := h.cel.cell (by simp only at h0 ⊢; omega)
 simp only at e
 injection e with e
 injection e with e1 e2
 subst e1 e2
 refine ⟨b, off + k, rfl, fun j hj => ?_⟩
 simp only at hj
 rw [Nat.add_assoc, hc (k + j) (by simp only; omega)]
 unfold textC
 rw [List.getElem?_map, List.getElem?_map, List.getElem?_drop]
theorem SlT.dropAll {w : World} {b off n c : Nat} {ws : WS} (h : SlT w ⟨some ⟨b, off, none⟩, n, c⟩ ws) (k : Nat) (hk : k ≤ n) (hc : c = k) : SlT w ⟨some ⟨b, off, none⟩, n - k, 0⟩ (ws.drop k) := by
 have hl := h.len
 have hle := h.le
 simp only at hl hle
 have hn : n - k = 0 := by omega
 have hd : ws.drop k = [] := List.drop_of_length_le (by omega)
 rw [hd, hn]
 exact ⟨⟨rfl, fun h0 => absurd h0 (by simp)⟩, rfl, (fun e => by cases e), Nat.le_refl _, Nat.zero_le _⟩
def RqPost (ws : WS) (w : World) (e : Ending) (w' : World) : Prop :=
 ∃ x S b, e = .returned (.tuple #[.agg (askC x S), .bool b]) ∧ AskOwn w' w.heap.size x S ∧ x.Ok ∧ askW ws = (if b then some x else none) ∧ Turned (fun _ => False) w w'
def RqRel (Bad : Prop) (w : World) (br bx : Nat) (f : List Nat) (x0 : AskV) (ws0 : WS) (l ok i : Value) (wr : World) : Prop :=
 ∃ (pos : Nat) (x : AskV) (S : AskS) (s : Sl) (ws : WS) (b : Bool), pos ≤ f.length ∧ i = .int .i64 pos ∧ l = .slice s.A s.n s.c ∧ ok = .bool b ∧ RqW w br bx x S s ws wr ∧
  (b = true ∧ (f.take pos).foldl optF (some (x0, ws0)) = some (x, ws) ∨ Bad ∧ (b = false ∨ ws ≠ [] ∧ pos = f.length))
theorem fold_none {f : List Nat} {pos : Nat} {s : Option (AskV × WS)} {x : AskV} {ws : WS} {c : Nat} (hc : f.take (pos + 1) = f.take pos ++ [c]) (h : (f.take pos).foldl optF s = some (x, ws)) (hn : takeF (x, ws) c = none) : f.foldl optF s = none := by
 conv => lhs; rw [← List.take_append_drop (pos + 1) f]
 rw [List.foldl_append, hc, List.foldl_append, h]
 show (f.drop (pos + 1)).foldl optF (takeF (x, ws) c) = none
 rw [hn]
 exact optF_none _
theorem fold_some {f : List Nat} {pos : Nat} {s : Option (AskV × WS)} {x y : AskV} {ws vs : WS} {c : Nat} (hc : f.take (pos + 1) = f.take pos ++ [c]) (h : (f.take pos).foldl optF s = some (x, ws)) (hn : takeF (x, ws) c = some (y, vs)) : (f.take (pos + 1)).foldl optF s = some (y, vs) := by
 rw [hc, List.foldl_append, h]
 exact hn
theorem fold_last {f : List Nat} {pos : Nat} (h : f ∈ kindsL) {c : Nat} (hc : f.take (pos + 1) = f.take pos ++ [c]) (hp : pos < f.length) (hl : c = 112 ∨ c = 111) : pos + 1 = f.length := by
 have e : f = f.take pos ++ c :: f.drop (pos + 1) := by
  conv => lhs; rw [← List.take_append_drop (pos + 1) f]
  rw [hc, List.append_assoc]
  rfl
 have := kinds_last h _ _ _ e hl
 have h2 := congrArg List.length this
 rw [List.length_drop, List.length_nil] at h2
 omega
theorem num_take_some {y : List UInt8} {t : WS} (h : (numL y).isSome = true) (g : Int → AskV) : ((num1 (y :: t)).map fun r => (g r.1, r.2)) = some (g ((numL y).getD 0), t) := by
 show (num1C y t).map _ = _
 unfold num1C
 cases hn : numL y with
 | none => rw [hn] at h; cases h
 | some m => rfl
theorem num_take_none {y : List UInt8} {t : WS} (h : (numL y).isSome = false) (g : Int → AskV) : ((num1 (y :: t)).map fun r => (g r.1, r.2)) = none := by
 show (num1C y t).map _ = _
 unfold num1C
 cases hn : numL y with
 | none => rfl
 | some m => rw [hn] at h; cases h
def PRel2 (w : World) (br bx : Nat) (x : AskV) (ws : WS) (l ok : Value) (wr : World) : Prop :=
 ∃ (ps : List (List UInt8 × Int)) (S6 : AskS) (s6 : Sl) (ws6 : WS) (b6 : Bool), l = .slice s6.A s6.n s6.c ∧ ok = .bool b6 ∧ RqW w br bx { x with parts := x.parts ++ ps } S6 s6 ws6 wr ∧ (b6 = true ∧ partsW ws = (match partsW ws6 with
  | none => none
  | some r => some (ps ++ r)) ∨ b6 = false ∧ partsW ws = none)
def sliceLen : Value → Nat
 | .slice _ n _ => n
 | _ => 0
theorem partsW_two (y v : List UInt8) (t : WS) : (∀ n, numL v = some n → partsW (y :: v :: t) = (match partsW t with
  | none => none
  | some l => some ((y, n) :: l))) ∧ (numL v = none → partsW (y :: v :: t) = none) := by
 refine ⟨fun n h => ?_, fun h => ?_⟩
 ·conv => lhs; unfold partsW
  rw [h]
  rfl
 ·conv => lhs; unfold partsW
  rw [h]
theorem parts_step {ws : WS} {ps : List (List UInt8 × Int)} {y v : List UInt8} {t : WS} (h : partsW ws = (match partsW (y :: v :: t) with
  | none => none
  | some r => some (ps ++ r))) : ((numL v).isSome = true ∧ partsW ws = (match partsW t with
  | none => none
  | some r => some ((ps ++ [(y, (numL v).getD 0)]) ++ r))) ∨ ((numL v).isSome = false ∧ partsW ws = none) := by
 cases hn : numL v with
 | none =>
  right
  rw [(partsW_two y v t).2 hn] at h
  exact ⟨rfl, h⟩
 | some n =>
  left
  rw [(partsW_two y v t).1 n hn] at h
  refine ⟨rfl, ?_⟩
  rw [h]
  cases partsW t with
  | none => rfl
  | some r =>
   show some (ps ++ ((y, n) :: r)) = some ((ps ++ [(y, n)]) ++ r)
   rw [List.append_assoc]
   rfl
end Go.Proofs.YtglojnmcbochaaaGreatDoor

