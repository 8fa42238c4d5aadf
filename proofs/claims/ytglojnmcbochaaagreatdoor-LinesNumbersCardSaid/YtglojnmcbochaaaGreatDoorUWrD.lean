/-
 ytglojnmcbochaaagreatdoor: laws and walks on the road to LinesNumbers, joined: Jn WrD. Conditions stand at each theorem.
-/
import Derived.Test.YtglojnmcbochaaaGreatDoorUShf
import Derived.Test.YtglojnmcbochaaaGreatDoorULnsP
import Derived.Test.YtglojnmcbochaaaGreatDoorUWrC
import Derived.Lib.ItoaLen
namespace Go.Proofs.YtglojnmcbochaaaGreatDoor
open Go.RowKit Go.Maps Go.Proofs
set_option linter.unusedVariables false
set_option linter.unusedSimpArgs false

theorem builderJ : Builder.Extra Tryz.prog Tryz.lays156_ren where
 sizeBuilder := by kernel_rfl
 liesBuilder := by kernel_rfl
 t5 := Tryz.lays105.t5
 a5 := Tryz.lays105.a5
 z5 := Tryz.lays105.z5
 v5 := Tryz.lays105.v5
 infoByte := by kernel_rfl
 cellsByte := by kernel_rfl
 sizeByte := by kernel_rfl
 neB5 := by decide
theorem join_any (b off n c : Nat) (l : WS) (w : World) (h : SlT w ⟨some ⟨b, off, none⟩, n, c⟩ l) (h2 : 2 ≤ n) (hn : n ≤ 1000000) (hlen : (Lib.join l [32]).length ≤ 140737488355328) :
  Calls Tryz.prog 21 #[.slice (some ⟨b, off, none⟩) n c, .string ⟨#[32]⟩] w (StrNew (Lib.join l [32]) w) := by
 have hl := h.len
 have hle := h.le
 simp only at hl hle
 obtain ⟨b', off', hA, hc⟩ := h.cells (show 0 < n by omega)
 simp only at hA hc
 injection hA with hA
 injection hA with e1 e2
 subst e1 e2
 have hb : b < w.heap.size := World.block_lt_of_cell? w ⟨b, off, none⟩ (hc 0 (by omega))
 have hxs : (l.map baOf).map (·.data.toList) = l := by
  rw [List.map_map]
  have : ((fun x : ByteArray => x.data.toList) ∘ baOf) = id := by
   funext x
   simp [baOf]
  rw [this, List.map_id]
 have := Any.strings_Join_many Tryz.lays156 builderJ b off c (l.map baOf) ⟨#[32]⟩ w (fun j x hx => by
  rw [List.getElem?_map, Option.map_eq_some_iff] at hx
  obtain ⟨y, hy, rfl⟩ := hx
  have hj : j < l.length := (List.getElem?_eq_some_iff.1 hy).1
  rw [hc j (by omega), List.getD_eq_getElem?_getD, hy]
  rfl) hb (by rw [List.length_map]; omega) (by rw [List.length_map]; omega) (by rw [List.length_map]; omega) (by rw [hxs]; exact hlen)
 rw [hxs, List.length_map, hl] at this
 exact this.mono fun e w' ⟨he, hw⟩ => ⟨he, Turned.of_below hw _⟩
/-! how long -/
theorem itoa_len (v : Int) (h : I64 v) : (Lib.itoa v).length ≤ 21 := Lib.itoa_length_le v h.1 h.2
theorem verbT_len (i : Nat) : (verbT.getD i []).length ≤ 7 := by
 rcases Nat.lt_or_ge i 16 with h | h
 ·have : ∀ i < 16, (verbT.getD i []).length ≤ 7 := by decide
  exact this i h
 ·rw [List.getD_eq_getElem?_getD, List.getElem?_eq_none (show verbT.length ≤ i from h)]
  simp
theorem field_short {a : AskV} {c : Nat} (h : okF a c = true) (hc : c ∈ letters) (ho : a.Ok) : ∀ p ∈ fieldW a c, p.length ≤ 21 := by
 intro p hp
 unfold letters at hc
 simp only [List.mem_cons, List.not_mem_nil, or_false] at hc
 rcases hc with rfl | rfl | rfl | rfl | rfl | rfl | rfl | rfl | rfl <;> simp only [okF, fieldW, Nat.reduceEqDiff, if_true, if_false, List.mem_singleton] at h hp
 ·subst hp; have := codeL_len h; omega
 ·subst hp; exact itoa_len _ ho.qty
 ·subst hp; exact itoa_len _ ho.day
 ·subst hp; exact itoa_len _ ho.days
 ·subst hp; exact itoa_len _ ho.rank
 ·subst hp; exact itoa_len _ ho.lot
 ·subst hp; exact itoa_len _ ho.line
 ·obtain ⟨q, hq, hp⟩ := List.mem_flatMap.1 hp
  have h1 := (partsB_mem h).2.2 q hq
  rcases List.mem_cons.1 hp with rfl | hp
  ·have := codeL_len h1.1; omega
  ·rw [List.mem_singleton] at hp
   subst hp
   exact itoa_len _ (ho.parts q hq).2
 ·have := codeL_len ((othersB_mem h).2 p hp); omega
theorem asks_short {a : AskV} (ho : a.Ok) : (asksW a).length ≤ 100 ∧ ∀ p ∈ asksW a, p.length ≤ 21 := by
 by_cases h : rightA a = true
 ·obtain ⟨f, hf, hok, _⟩ := right_ok h
  have e : asksW a = wordOf a.kind :: Lib.itoa a.request :: f.flatMap (fieldW a) := by
   unfold asksW
   rw [if_pos h, hf]
   rfl
  rw [e]
  refine ⟨?_, fun p hp => ?_⟩
  ·have h1 := fieldsW_len f hok
   have h2 := kindsL_len (fieldsK_kinds hf)
   simp only [List.length_cons]
   omega
  ·rcases List.mem_cons.1 hp with rfl | hp
   ·have := verbT_len a.kind.toNat
    show (verbT.getD a.kind.toNat []).length ≤ 21
    omega
   ·rcases List.mem_cons.1 hp with rfl | hp
    ·exact itoa_len _ ho.request
    ·obtain ⟨c, hc, hp⟩ := List.mem_flatMap.1 hp
     exact field_short (hok c hc).1 (hok c hc).2 ho p hp
 ·have e : asksW a = [[110, 111, 110, 101]] := by
   unfold asksW
   rw [if_neg h]
  rw [e]
  exact ⟨by decide, by decide⟩
theorem tells_short {t : TellV} (ho : t.Ok) : (tellsW t).length ≤ 10200 ∧ ∀ p ∈ tellsW t, p.length ≤ 21 := by
 by_cases h : rightT t = true
 ·by_cases he : t.err ≠ 0
  ·have e : tellsW t = [[101, 114, 114, 111, 114], Lib.itoa t.err] := by
    unfold tellsW
    rw [if_pos h, if_pos he]
   rw [e]
   refine ⟨by simp, fun p hp => ?_⟩
   simp only [List.mem_cons, List.not_mem_nil, or_false] at hp
   rcases hp with rfl | rfl
   ·decide
   ·exact itoa_len _ ho.err
  ·have e : tellsW t = [111, 107] :: Lib.itoa t.id :: Lib.itoa t.day :: (if t.code = [] then [45] else t.code) :: Lib.itoa t.state :: (t.lots.flatMap lotW ++ t.uses.flatMap useW) := by
    unfold tellsW
    rw [if_pos h, if_neg he]
   have hf := rightT_few h
   have hr := h
   unfold rightT at hr
   rw [if_neg (fun hh => by rw [if_pos hh] at hr; cases hr), if_neg he] at hr
   simp only [zD, Bool.or_eq_true, zE] at hr
   obtain ⟨_, _, hc, _, _, _, hl, hu⟩ := hr
   rw [e]
   refine ⟨?_, fun p hp => ?_⟩
   ·have h1 := flatLen lotW 7 (fun _ => rfl) t.lots
    have h2 := flatLen useW 4 (fun _ => rfl) t.uses
    simp only [List.length_cons, List.length_append]
    omega
   ·simp only [List.mem_cons, List.mem_append] at hp
    rcases hp with rfl | rfl | rfl | rfl | rfl | hp | hp
    ·decide
    ·exact itoa_len _ ho.id
    ·exact itoa_len _ ho.day
    ·split
     ·decide
     ·rename_i hne
      rcases hc with hc | hc
      ·exact absurd hc hne
      ·have := codeL_len hc; omega
    ·exact itoa_len _ (by have := ho.state; unfold isByte at this; unfold I64; omega)
    ·obtain ⟨l, hl', hp⟩ := List.mem_flatMap.1 hp
     have h1 := List.all_eq_true.1 hl l hl'
     have h2 := ho.lots l hl'
     unfold lotB at h1
     simp only [zD] at h1
     unfold lotW at hp
     simp only [List.mem_cons, List.not_mem_nil, or_false] at hp
     rcases hp with rfl | rfl | rfl | rfl | rfl | rfl | rfl
     ·decide
     ·exact itoa_len _ h2.id
     ·have := codeL_len h1.2.1; omega
     ·exact itoa_len _ h2.frm
     ·exact itoa_len _ h2.til
     ·exact itoa_len _ h2.qty
     ·exact itoa_len _ (by split <;> (unfold I64; omega))
    ·obtain ⟨u, hu', hp⟩ := List.mem_flatMap.1 hp
     have h2 := ho.uses u hu'
     unfold useW at hp
     simp only [List.mem_cons, List.not_mem_nil, or_false] at hp
     rcases hp with rfl | rfl | rfl | rfl
     ·decide
     ·exact itoa_len _ h2.want
     ·exact itoa_len _ h2.lot
     ·exact itoa_len _ h2.qty
 ·have e : tellsW t = [[110, 111, 110, 101]] := by
   unfold tellsW
   rw [if_neg h]
  rw [e]
  exact ⟨by decide, by decide⟩
structure TaleV.Ok (t : TaleV) : Prop where
 kind : isByte t.kind
 at_ : I64 t.at_
 session : I64 t.session
 ask : t.ask.Ok
 tell : t.tell.Ok
theorem told_short {t : TaleV} (ho : t.Ok) : (toldW t).length ≤ 10300 ∧ 2 ≤ (toldW t).length ∧ ∀ p ∈ toldW t, p.length ≤ 21 := by
 have ha := asks_short ho.ask
 have ht := tells_short ho.tell
 have hi := itoa_len _ ho.at_
 have hs := itoa_len _ ho.session
 unfold toldW
 split
 ·refine ⟨by simp only [List.length_cons]; omega, by simp only [List.length_cons]; omega, fun p hp => ?_⟩
  simp only [List.mem_cons] at hp
  rcases hp with rfl | rfl | rfl | hp
  ·exact hi
  ·decide
  ·exact hs
  ·exact ha.2 p hp
 ·split
  ·refine ⟨by simp only [List.length_cons]; omega, by simp only [List.length_cons]; omega, fun p hp => ?_⟩
   simp only [List.mem_cons] at hp
   rcases hp with rfl | rfl | rfl | hp
   ·exact hi
   ·decide
   ·exact hs
   ·exact ht.2 p hp
  ·split
   ·refine ⟨by simp, by simp, fun p hp => ?_⟩
    simp only [List.mem_cons, List.not_mem_nil, or_false] at hp
    rcases hp with rfl | rfl
    ·exact hi
    ·decide
   ·split
    ·refine ⟨by simp, by simp, fun p hp => ?_⟩
     simp only [List.mem_cons, List.not_mem_nil, or_false] at hp
     rcases hp with rfl | rfl
     ·exact hi
     ·decide
    ·refine ⟨by simp, by simp, fun p hp => ?_⟩
     simp only [List.mem_cons, List.not_mem_nil, or_false] at hp
     rcases hp with rfl | rfl
     ·exact hi
     ·decide
theorem each32_len (ws : WS) (h : ∀ p ∈ ws, p.length ≤ 21) : (each32 ws).length ≤ 22 * ws.length := by
 induction ws with
 | nil => exact Nat.le_refl _
 | cons p ws ih =>
  rw [each32_cons, List.length_append, List.length_cons, List.length_cons]
  have h1 := h p (by simp)
  have h2 := ih (fun q hq => h q (by simp [hq]))
  omega
theorem told_len {t : TaleV} (ho : t.Ok) : (Lib.join (toldW t) [32]).length ≤ 300000 := by
 obtain ⟨ws, h1, h2⟩ := told_eq t
 obtain ⟨g1, _, g2⟩ := told_short ho
 rw [h1] at g1 g2
 have h3 := each32_len ws (fun p hp => g2 p (by simp [hp]))
 have h4 := itoa_len _ ho.at_
 show (toldL t).length ≤ _
 rw [h2, List.length_append]
 simp only [List.length_cons] at g1
 unfold Lib.itoa at *
 omega
end Go.Proofs.YtglojnmcbochaaaGreatDoor

namespace Go.Proofs.YtglojnmcbochaaaGreatDoor
open Go.RowKit Go.Maps
set_option linter.unusedVariables false
set_option linter.unusedSimpArgs false

def taleC (t : TaleV) (SA : AskS) (ST : TellS) : Array Value :=
 #[.int .u8 t.kind, .int .i64 t.at_, .int .i64 t.session, .int .u8 t.ask.kind, .int .i64 t.ask.request, strV t.ask.item, .int .i64 t.ask.qty, .int .i64 t.ask.day, .int .i64 t.ask.days, .int .i64 t.ask.rank, .int .i64 t.ask.lot, .int .i64 t.ask.line, .slice SA.P.A SA.P.n SA.P.c, .slice SA.O.A SA.O.n SA.O.c, .int .i64 t.tell.err, .int .i64 t.tell.id, .int .i64 t.tell.day, strV t.tell.code, .int .u8 t.tell.state, .slice ST.L.A ST.L.n ST.L.c, .slice ST.U.A ST.U.n ST.U.c]
theorem Blk.cells21 {w : World} {g : Nat} {t : TypeId} {a0 a1 a2 a3 a4 a5 a6 a7 a8 a9 a10 a11 a12 a13 a14 a15 a16 a17 a18 a19 a20 : Value} (h : Blk w g t #[a0, a1, a2, a3, a4, a5, a6, a7, a8, a9, a10, a11, a12, a13, a14, a15, a16, a17, a18, a19, a20]) : w.cell? ⟨g, 0, none⟩ = some a0 ∧ w.cell? ⟨g, 1, none⟩ = some a1 ∧ w.cell? ⟨g, 2, none⟩ = some a2 ∧ w.cell? ⟨g, 3, none⟩ = some a3 ∧ w.cell? ⟨g, 4, none⟩ = some a4 ∧ w.cell? ⟨g, 5, none⟩ = some a5 ∧ w.cell? ⟨g, 6, none⟩ = some a6 ∧ w.cell? ⟨g, 7, none⟩ = some a7 ∧ w.cell? ⟨g, 8, none⟩ = some a8 ∧ w.cell? ⟨g, 9, none⟩ = some a9 ∧ w.cell? ⟨g, 10, none⟩ = some a10 ∧ w.cell? ⟨g, 11, none⟩ = some a11 ∧ w.cell? ⟨g, 12, none⟩ = some a12 ∧ w.cell? ⟨g, 13, none⟩ = some a13 ∧ w.cell? ⟨g, 14, none⟩ = some a14 ∧ w.cell? ⟨g, 15, none⟩ = some a15 ∧ w.cell? ⟨g, 16, none⟩ = some a16 ∧ w.cell? ⟨g, 17, none⟩ = some a17 ∧ w.cell? ⟨g, 18, none⟩ = some a18 ∧ w.cell? ⟨g, 19, none⟩ = some a19 ∧ w.cell? ⟨g, 20, none⟩ = some a20 :=
 ⟨h.cell 0, h.cell 1, h.cell 2, h.cell 3, h.cell 4, h.cell 5, h.cell 6, h.cell 7, h.cell 8, h.cell 9, h.cell 10, h.cell 11, h.cell 12, h.cell 13, h.cell 14, h.cell 15, h.cell 16, h.cell 17, h.cell 18, h.cell 19, h.cell 20⟩
set_option maxRecDepth 100000 in
set_option maxHeartbeats 8000000 in
theorem ltell_any (t : TaleV) (SA : AskS) (ST : TellS) (w : World) (hv0 : VarsOk w) (hK0 : KindsOk w) (hV0 : VerbsOk w) (hA0 : AskIs w t.ask SA) (hT0 : TellIs w t.tell ST) (hok : t.Ok) (hP : t.ask.parts.length ≤ 1000000) :
  Calls Tryz.prog 14 #[.agg (taleC t SA ST)] w (StrNew (toldL t) w) := by
 have hsh := hZ (told_short hok)
 have hln := hZ (told_len hok)
 obtain ⟨tk, at_, ses, ⟨kd, rq, it, qt, dy, dz, rk, lo, ln, parts, others⟩, ⟨er, id, ty, cd, st, lots, uses⟩⟩ := t
 obtain ⟨⟨PA, Pn, Pc⟩, ⟨QA, On, Oc⟩⟩ := SA
 obtain ⟨⟨LA, Ln, Lc⟩, ⟨UA, Un, Uc⟩⟩ := ST
 have hA := hZ hA0
 have hT := hZ hT0
 have hAo := hZ hok.ask
 have hTo := hZ hok.tell
 have hOs := hok.session
 have hOa := hok.at_
 have hkb := hok.kind
 unfold isByte at hkb
 simp only at hkb hOs hOa hP
 have hv := hZ hv0
 have hK := hZ hK0
 have hV := hZ hV0
 clear hA0 hT0 hok hv0 hK0 hV0
 unfold taleC strV
 simp only
 go_enter Tryz.func14, Tryz.ntmps14
 go_upto_region 2 with fail
 have tb := (Turned.refl (fun _ => False) w).alloc (.cells #[.int .u8 tk, .int .i64 at_, .int .i64 ses, .int .u8 kd, .int .i64 rq, .string ⟨it.toArray⟩, .int .i64 qt, .int .i64 dy, .int .i64 dz, .int .i64 rk, .int .i64 lo, .int .i64 ln, .slice PA Pn Pc, .slice QA On Oc, .int .i64 er, .int .i64 id, .int .i64 ty, .string ⟨cd.toArray⟩, .int .u8 st, .slice LA Ln Lc, .slice UA Un Uc] 44)
 have BT0 := Blk.new w 44 #[.int .u8 tk, .int .i64 at_, .int .i64 ses, .int .u8 kd, .int .i64 rq, .string ⟨it.toArray⟩, .int .i64 qt, .int .i64 dy, .int .i64 dz, .int .i64 rk, .int .i64 lo, .int .i64 ln, .slice PA Pn Pc, .slice QA On Oc, .int .i64 er, .int .i64 id, .int .i64 ty, .string ⟨cd.toArray⟩, .int .u8 st, .slice LA Ln Lc, .slice UA Un Uc]
 have tc := (Turned.refl (fun _ => False) (w.alloc (.cells #[.int .u8 tk, .int .i64 at_, .int .i64 ses, .int .u8 kd, .int .i64 rq, .string ⟨it.toArray⟩, .int .i64 qt, .int .i64 dy, .int .i64 dz, .int .i64 rk, .int .i64 lo, .int .i64 ln, .slice PA Pn Pc, .slice QA On Oc, .int .i64 er, .int .i64 id, .int .i64 ty, .string ⟨cd.toArray⟩, .int .u8 st, .slice LA Ln Lc, .slice UA Un Uc] 44))).alloc (.cells #[.slice none 0 0] 82)
 have HB0 : Blk _ (w.heap.size + 1) 82 #[.slice none 0 0] := Blk.new_at (w.alloc (.cells #[.int .u8 tk, .int .i64 at_, .int .i64 ses, .int .u8 kd, .int .i64 rq, .string ⟨it.toArray⟩, .int .i64 qt, .int .i64 dy, .int .i64 dz, .int .i64 rk, .int .i64 lo, .int .i64 ln, .slice PA Pn Pc, .slice QA On Oc, .int .i64 er, .int .i64 id, .int .i64 ty, .string ⟨cd.toArray⟩, .int .u8 st, .slice LA Ln Lc, .slice UA Un Uc] 44)) 82 #[.slice none 0 0] (by simp)
 have t01 := hZ (tb.and_ tc)
 have BT1 := hZ (BT0.turned tc (fun e => e))
 have HW1 := hZ (show WrW _ w.heap.size (w.heap.size + 1) [] from ⟨none, 0, HB0, OwnE.nil _ _ _, fun i e => by cases e⟩)
 have TT1 := hZ (WrT.of t01.out : WrT w.heap.size (w.heap.size + 1) _ _)
 have hz1 := hZ t01.out.size
 obtain ⟨W1, hW1⟩ : ∃ W1, W1 = (w.alloc (.cells #[.int .u8 tk, .int .i64 at_, .int .i64 ses, .int .u8 kd, .int .i64 rq, .string ⟨it.toArray⟩, .int .i64 qt, .int .i64 dy, .int .i64 dz, .int .i64 rk, .int .i64 lo, .int .i64 ln, .slice PA Pn Pc, .slice QA On Oc, .int .i64 er, .int .i64 id, .int .i64 ty, .string ⟨cd.toArray⟩, .int .u8 st, .slice LA Ln Lc, .slice UA Un Uc] 44)).alloc (.cells #[.slice none 0 0] 82) := ⟨_, rfl⟩
 rw [← hW1] at t01 BT1 HW1 TT1 hz1 ⊢
 clear hW1 tb tc HB0 BT0
 obtain ⟨bt, hbt⟩ : ∃ bt, w.heap.size = bt := ⟨_, rfl⟩
 obtain ⟨g, hgg⟩ : ∃ g, bt + 1 = g := ⟨_, rfl⟩
 have hg : w.heap.size ≤ g := by omega
 have hbg : bt ≠ g := by omega
 have e1 : w.heap.size + 1 = g := by omega
 rw [e1] at HW1 TT1
 have BT1 := hZ (show Blk W1 bt _ _ from by rw [← hbt]; exact BT1.out)
 simp only [hbt, hgg]
 clear e1 hbt hgg
 obtain ⟨x0, x1, x2, x3, x4, x5, x6, x7, x8, x9, x10, x11, x12, x13, x14, x15, x16, x17, x18, x19, x20⟩ := BT1.out.cells21
 go_wp2_with fail
 refine (wr_num1 (ws := []) at_ hv.out t01.out hg HW1.out hOa (by simp)).mono ?_
 rintro e W2 ⟨rfl, hw2, tw2⟩
 have HW2 := hZ hw2
 have TT2 := hZ (TT1.out.trans tw2)
 have t02 := hZ (tw2.all t01.out hg)
 have hz2 := hZ (Nat.le_trans hz1.out tw2.size)
 have BT2 := hZ (tw2.blk BT1.out (by decide) hbg)
 clear hw2 tw2 HW1 TT1 t01 hz1 BT1 x0 x1 x2 x3 x4 x5 x6 x7 x8 x9 x10 x11 x12 x13 x14 x15 x16 x17 x18 x19 x20
 obtain ⟨x0, x1, x2, x3, x4, x5, x6, x7, x8, x9, x10, x11, x12, x13, x14, x15, x16, x17, x18, x19, x20⟩ := BT2.out.cells21
 go_upto_region 3 with fail
 have HW2 := hZ (show WrW W2 w.heap.size g [Lib.itoa at_] from HW2.out)
 by_cases n1 : tk = 1
 ·subst n1
  go_wp2_with fail
  refine (itoa_any ses _ (hv.out.turned t02.out) hOs).mono ?_
  rintro e W3 ⟨rfl, t3⟩
  have HW3 := hZ (HW2.out.fresh t3)
  have TT3 := hZ (TT2.out.trans (WrT.of t3))
  have t03 := hZ (t02.out.and_ t3)
  have hz3 := hZ (Nat.le_trans hz2.out t3.size)
  have BT3 := hZ (BT2.out.turned t3 (fun e => e))
  clear HW2 TT2 t02 hz2 BT2 x0 x1 x2 x3 x4 x5 x6 x7 x8 x9 x10 x11 x12 x13 x14 x15 x16 x17 x18 x19 x20 t3
  obtain ⟨x0, x1, x2, x3, x4, x5, x6, x7, x8, x9, x10, x11, x12, x13, x14, x15, x16, x17, x18, x19, x20⟩ := BT3.out.cells21
  go_wp2_with fail
  refine (wr_word2 [97, 115, 107, 115] (Lib.itoa ses) HW3.out hz3.out (by (try simp only [List.length_append, List.length_cons, List.length_nil]); omega)).mono ?_
  rintro e W4 ⟨rfl, hw4, tw4⟩
  have HW4 := hZ hw4
  have TT4 := hZ (TT3.out.trans tw4)
  have t04 := hZ (tw4.all t03.out hg)
  have hz4 := hZ (Nat.le_trans hz3.out tw4.size)
  have BT4 := hZ (tw4.blk BT3.out (by decide) hbg)
  clear hw4 tw4 HW3 TT3 t03 hz3 BT3 x0 x1 x2 x3 x4 x5 x6 x7 x8 x9 x10 x11 x12 x13 x14 x15 x16 x17 x18 x19 x20
  obtain ⟨x0, x1, x2, x3, x4, x5, x6, x7, x8, x9, x10, x11, x12, x13, x14, x15, x16, x17, x18, x19, x20⟩ := BT4.out.cells21
  go_wp2_with fail
  refine (wr_asks w g ([Lib.itoa at_] ++ [[97, 115, 107, 115], (Lib.itoa ses)]) ⟨kd, rq, it, qt, dy, dz, rk, lo, ln, parts, others⟩ ⟨⟨PA, Pn, Pc⟩, ⟨QA, On, Oc⟩⟩ W4 hv.out hK.out hV.out t04.out hg HW4.out hA.out hAo.out hP (by simp)).mono ?_
  rintro e W5 ⟨rfl, hw5, tw5⟩
  have HW5 := hZ hw5
  have TT5 := hZ (TT4.out.trans tw5)
  have t05 := hZ (tw5.all t04.out hg)
  have hz5 := hZ (Nat.le_trans hz4.out tw5.size)
  have BT5 := hZ (tw5.blk BT4.out (by decide) hbg)
  clear hw5 tw5 HW4 TT4 t04 hz4 BT4 x0 x1 x2 x3 x4 x5 x6 x7 x8 x9 x10 x11 x12 x13 x14 x15 x16 x17 x18 x19 x20
  obtain ⟨x0, x1, x2, x3, x4, x5, x6, x7, x8, x9, x10, x11, x12, x13, x14, x15, x16, x17, x18, x19, x20⟩ := BT5.out.cells21
  skip
  have hws := hZ (show [Lib.itoa at_] ++ [[97, 115, 107, 115], (Lib.itoa ses)] ++ asksW ⟨kd, rq, it, qt, dy, dz, rk, lo, ln, parts, others⟩ = toldW ⟨1, at_, ses, ⟨kd, rq, it, qt, dy, dz, rk, lo, ln, parts, others⟩, ⟨er, id, ty, cd, st, lots, uses⟩⟩ from by unfold toldW; rw [if_pos rfl]; simp)
  have HX := hZ (show WrW W5 w.heap.size g (toldW ⟨1, at_, ses, ⟨kd, rq, it, qt, dy, dz, rk, lo, ln, parts, others⟩, ⟨er, id, ty, cd, st, lots, uses⟩⟩) from by have := HW5.out; rw [hws.out] at this; exact this)
  clear HW5
  obtain ⟨rA, rc, r1, r2, r3⟩ := HX.out
  obtain ⟨rb, hrA, r4⟩ := r2.some_ (show 0 < (toldW ⟨1, at_, ses, ⟨kd, rq, it, qt, dy, dz, rk, lo, ln, parts, others⟩, ⟨er, id, ty, cd, st, lots, uses⟩⟩).length from by have := hsh.out.2.1; omega)
  subst hrA
  have hst9 := hZ r2.slT
  have y0 : W5.cell? ⟨g, 0, none⟩ = some (.slice (some ⟨rb, 0, none⟩) (toldW ⟨1, at_, ses, ⟨kd, rq, it, qt, dy, dz, rk, lo, ln, parts, others⟩, ⟨er, id, ty, cd, st, lots, uses⟩⟩).length rc) := r1.cell 0
  have hJ := hZ (join_any rb 0 _ rc _ _ hst9.out hsh.out.2.1 (by have := hsh.out.1; omega) (by have := hln.out; omega))
  clear r1 r2 r3 r4 hst9 HX
  generalize (toldW ⟨1, at_, ses, ⟨kd, rq, it, qt, dy, dz, rk, lo, ln, parts, others⟩, ⟨er, id, ty, cd, st, lots, uses⟩⟩).length = nn at *
  go_wp2_with fail
  refine hJ.out.mono ?_
  rintro e W99 ⟨rfl, t99⟩
  have t99h := hZ t99
  clear t99 hJ
  go_wp2_with fail
  go_ret
  exact ⟨rfl, t05.out.and_ t99h.out⟩
 by_cases n2 : tk = 2
 ·subst n2
  go_wp2_with fail
  refine (itoa_any ses _ (hv.out.turned t02.out) hOs).mono ?_
  rintro e W3 ⟨rfl, t3⟩
  have HW3 := hZ (HW2.out.fresh t3)
  have TT3 := hZ (TT2.out.trans (WrT.of t3))
  have t03 := hZ (t02.out.and_ t3)
  have hz3 := hZ (Nat.le_trans hz2.out t3.size)
  have BT3 := hZ (BT2.out.turned t3 (fun e => e))
  clear HW2 TT2 t02 hz2 BT2 x0 x1 x2 x3 x4 x5 x6 x7 x8 x9 x10 x11 x12 x13 x14 x15 x16 x17 x18 x19 x20 t3
  obtain ⟨x0, x1, x2, x3, x4, x5, x6, x7, x8, x9, x10, x11, x12, x13, x14, x15, x16, x17, x18, x19, x20⟩ := BT3.out.cells21
  go_wp2_with fail
  refine (wr_word2 [116, 101, 108, 108, 115] (Lib.itoa ses) HW3.out hz3.out (by (try simp only [List.length_append, List.length_cons, List.length_nil]); omega)).mono ?_
  rintro e W4 ⟨rfl, hw4, tw4⟩
  have HW4 := hZ hw4
  have TT4 := hZ (TT3.out.trans tw4)
  have t04 := hZ (tw4.all t03.out hg)
  have hz4 := hZ (Nat.le_trans hz3.out tw4.size)
  have BT4 := hZ (tw4.blk BT3.out (by decide) hbg)
  clear hw4 tw4 HW3 TT3 t03 hz3 BT3 x0 x1 x2 x3 x4 x5 x6 x7 x8 x9 x10 x11 x12 x13 x14 x15 x16 x17 x18 x19 x20
  obtain ⟨x0, x1, x2, x3, x4, x5, x6, x7, x8, x9, x10, x11, x12, x13, x14, x15, x16, x17, x18, x19, x20⟩ := BT4.out.cells21
  go_wp2_with fail
  refine (wr_tells w g ([Lib.itoa at_] ++ [[116, 101, 108, 108, 115], (Lib.itoa ses)]) ⟨er, id, ty, cd, st, lots, uses⟩ ⟨⟨LA, Ln, Lc⟩, ⟨UA, Un, Uc⟩⟩ W4 hv.out t04.out hg HW4.out hT.out hTo.out (by simp)).mono ?_
  rintro e W5 ⟨rfl, hw5, tw5⟩
  have HW5 := hZ hw5
  have TT5 := hZ (TT4.out.trans tw5)
  have t05 := hZ (tw5.all t04.out hg)
  have hz5 := hZ (Nat.le_trans hz4.out tw5.size)
  have BT5 := hZ (tw5.blk BT4.out (by decide) hbg)
  clear hw5 tw5 HW4 TT4 t04 hz4 BT4 x0 x1 x2 x3 x4 x5 x6 x7 x8 x9 x10 x11 x12 x13 x14 x15 x16 x17 x18 x19 x20
  obtain ⟨x0, x1, x2, x3, x4, x5, x6, x7, x8, x9, x10, x11, x12, x13, x14, x15, x16, x17, x18, x19, x20⟩ := BT5.out.cells21
  skip
  have hws := hZ (show [Lib.itoa at_] ++ [[116, 101, 108, 108, 115], (Lib.itoa ses)] ++ tellsW ⟨er, id, ty, cd, st, lots, uses⟩ = toldW ⟨2, at_, ses, ⟨kd, rq, it, qt, dy, dz, rk, lo, ln, parts, others⟩, ⟨er, id, ty, cd, st, lots, uses⟩⟩ from by unfold toldW; rw [if_neg (by simp), if_pos rfl]; simp)
  have HX := hZ (show WrW W5 w.heap.size g (toldW ⟨2, at_, ses, ⟨kd, rq, it, qt, dy, dz, rk, lo, ln, parts, others⟩, ⟨er, id, ty, cd, st, lots, uses⟩⟩) from by have := HW5.out; rw [hws.out] at this; exact this)
  clear HW5
  obtain ⟨rA, rc, r1, r2, r3⟩ := HX.out
  obtain ⟨rb, hrA, r4⟩ := r2.some_ (show 0 < (toldW ⟨2, at_, ses, ⟨kd, rq, it, qt, dy, dz, rk, lo, ln, parts, others⟩, ⟨er, id, ty, cd, st, lots, uses⟩⟩).length from by have := hsh.out.2.1; omega)
  subst hrA
  have hst9 := hZ r2.slT
  have y0 : W5.cell? ⟨g, 0, none⟩ = some (.slice (some ⟨rb, 0, none⟩) (toldW ⟨2, at_, ses, ⟨kd, rq, it, qt, dy, dz, rk, lo, ln, parts, others⟩, ⟨er, id, ty, cd, st, lots, uses⟩⟩).length rc) := r1.cell 0
  have hJ := hZ (join_any rb 0 _ rc _ _ hst9.out hsh.out.2.1 (by have := hsh.out.1; omega) (by have := hln.out; omega))
  clear r1 r2 r3 r4 hst9 HX
  generalize (toldW ⟨2, at_, ses, ⟨kd, rq, it, qt, dy, dz, rk, lo, ln, parts, others⟩, ⟨er, id, ty, cd, st, lots, uses⟩⟩).length = nn at *
  go_wp2_with fail
  refine hJ.out.mono ?_
  rintro e W99 ⟨rfl, t99⟩
  have t99h := hZ t99
  clear t99 hJ
  go_wp2_with fail
  go_ret
  exact ⟨rfl, t05.out.and_ t99h.out⟩
 by_cases n3 : tk = 3
 ·subst n3
  go_wp2_with fail
  refine (wr_word1 [100, 111, 119, 110] HW2.out hz2.out (by (try simp only [List.length_append, List.length_cons, List.length_nil]); omega)).mono ?_
  rintro e W3 ⟨rfl, hw3, tw3⟩
  have HW3 := hZ hw3
  have TT3 := hZ (TT2.out.trans tw3)
  have t03 := hZ (tw3.all t02.out hg)
  have hz3 := hZ (Nat.le_trans hz2.out tw3.size)
  have BT3 := hZ (tw3.blk BT2.out (by decide) hbg)
  clear hw3 tw3 HW2 TT2 t02 hz2 BT2 x0 x1 x2 x3 x4 x5 x6 x7 x8 x9 x10 x11 x12 x13 x14 x15 x16 x17 x18 x19 x20
  obtain ⟨x0, x1, x2, x3, x4, x5, x6, x7, x8, x9, x10, x11, x12, x13, x14, x15, x16, x17, x18, x19, x20⟩ := BT3.out.cells21
  skip
  have hws := hZ (show [Lib.itoa at_] ++ [[100, 111, 119, 110]] = toldW ⟨3, at_, ses, ⟨kd, rq, it, qt, dy, dz, rk, lo, ln, parts, others⟩, ⟨er, id, ty, cd, st, lots, uses⟩⟩ from by unfold toldW; rw [if_neg (by simp), if_neg (by simp), if_pos rfl]; simp)
  have HX := hZ (show WrW W3 w.heap.size g (toldW ⟨3, at_, ses, ⟨kd, rq, it, qt, dy, dz, rk, lo, ln, parts, others⟩, ⟨er, id, ty, cd, st, lots, uses⟩⟩) from by have := HW3.out; rw [hws.out] at this; exact this)
  clear HW3
  obtain ⟨rA, rc, r1, r2, r3⟩ := HX.out
  obtain ⟨rb, hrA, r4⟩ := r2.some_ (show 0 < (toldW ⟨3, at_, ses, ⟨kd, rq, it, qt, dy, dz, rk, lo, ln, parts, others⟩, ⟨er, id, ty, cd, st, lots, uses⟩⟩).length from by have := hsh.out.2.1; omega)
  subst hrA
  have hst9 := hZ r2.slT
  have y0 : W3.cell? ⟨g, 0, none⟩ = some (.slice (some ⟨rb, 0, none⟩) (toldW ⟨3, at_, ses, ⟨kd, rq, it, qt, dy, dz, rk, lo, ln, parts, others⟩, ⟨er, id, ty, cd, st, lots, uses⟩⟩).length rc) := r1.cell 0
  have hJ := hZ (join_any rb 0 _ rc _ _ hst9.out hsh.out.2.1 (by have := hsh.out.1; omega) (by have := hln.out; omega))
  clear r1 r2 r3 r4 hst9 HX
  generalize (toldW ⟨3, at_, ses, ⟨kd, rq, it, qt, dy, dz, rk, lo, ln, parts, others⟩, ⟨er, id, ty, cd, st, lots, uses⟩⟩).length = nn at *
  go_wp2_with fail
  refine hJ.out.mono ?_
  rintro e W99 ⟨rfl, t99⟩
  have t99h := hZ t99
  clear t99 hJ
  go_wp2_with fail
  go_ret
  exact ⟨rfl, t03.out.and_ t99h.out⟩
 by_cases n4 : tk = 4
 ·subst n4
  go_wp2_with fail
  refine (wr_word1 [111, 112, 101, 110] HW2.out hz2.out (by (try simp only [List.length_append, List.length_cons, List.length_nil]); omega)).mono ?_
  rintro e W3 ⟨rfl, hw3, tw3⟩
  have HW3 := hZ hw3
  have TT3 := hZ (TT2.out.trans tw3)
  have t03 := hZ (tw3.all t02.out hg)
  have hz3 := hZ (Nat.le_trans hz2.out tw3.size)
  have BT3 := hZ (tw3.blk BT2.out (by decide) hbg)
  clear hw3 tw3 HW2 TT2 t02 hz2 BT2 x0 x1 x2 x3 x4 x5 x6 x7 x8 x9 x10 x11 x12 x13 x14 x15 x16 x17 x18 x19 x20
  obtain ⟨x0, x1, x2, x3, x4, x5, x6, x7, x8, x9, x10, x11, x12, x13, x14, x15, x16, x17, x18, x19, x20⟩ := BT3.out.cells21
  skip
  have hws := hZ (show [Lib.itoa at_] ++ [[111, 112, 101, 110]] = toldW ⟨4, at_, ses, ⟨kd, rq, it, qt, dy, dz, rk, lo, ln, parts, others⟩, ⟨er, id, ty, cd, st, lots, uses⟩⟩ from by unfold toldW; rw [if_neg (by simp), if_neg (by simp), if_neg (by simp), if_pos rfl]; simp)
  have HX := hZ (show WrW W3 w.heap.size g (toldW ⟨4, at_, ses, ⟨kd, rq, it, qt, dy, dz, rk, lo, ln, parts, others⟩, ⟨er, id, ty, cd, st, lots, uses⟩⟩) from by have := HW3.out; rw [hws.out] at this; exact this)
  clear HW3
  obtain ⟨rA, rc, r1, r2, r3⟩ := HX.out
  obtain ⟨rb, hrA, r4⟩ := r2.some_ (show 0 < (toldW ⟨4, at_, ses, ⟨kd, rq, it, qt, dy, dz, rk, lo, ln, parts, others⟩, ⟨er, id, ty, cd, st, lots, uses⟩⟩).length from by have := hsh.out.2.1; omega)
  subst hrA
  have hst9 := hZ r2.slT
  have y0 : W3.cell? ⟨g, 0, none⟩ = some (.slice (some ⟨rb, 0, none⟩) (toldW ⟨4, at_, ses, ⟨kd, rq, it, qt, dy, dz, rk, lo, ln, parts, others⟩, ⟨er, id, ty, cd, st, lots, uses⟩⟩).length rc) := r1.cell 0
  have hJ := hZ (join_any rb 0 _ rc _ _ hst9.out hsh.out.2.1 (by have := hsh.out.1; omega) (by have := hln.out; omega))
  clear r1 r2 r3 r4 hst9 HX
  generalize (toldW ⟨4, at_, ses, ⟨kd, rq, it, qt, dy, dz, rk, lo, ln, parts, others⟩, ⟨er, id, ty, cd, st, lots, uses⟩⟩).length = nn at *
  go_wp2_with fail
  refine hJ.out.mono ?_
  rintro e W99 ⟨rfl, t99⟩
  have t99h := hZ t99
  clear t99 hJ
  go_wp2_with fail
  go_ret
  exact ⟨rfl, t03.out.and_ t99h.out⟩
 have g1 : (tk == 1) = false := by simp [n1]
 have g2 : (tk == 2) = false := by simp [n2]
 have g3 : (tk == 3) = false := by simp [n3]
 have g4 : (tk == 4) = false := by simp [n4]
 go_wp2_with fail
 refine (wr_word1 [110, 111, 110, 101] HW2.out hz2.out (by (try simp only [List.length_append, List.length_cons, List.length_nil]); omega)).mono ?_
 rintro e W3 ⟨rfl, hw3, tw3⟩
 have HW3 := hZ hw3
 have TT3 := hZ (TT2.out.trans tw3)
 have t03 := hZ (tw3.all t02.out hg)
 have hz3 := hZ (Nat.le_trans hz2.out tw3.size)
 have BT3 := hZ (tw3.blk BT2.out (by decide) hbg)
 clear hw3 tw3 HW2 TT2 t02 hz2 BT2 x0 x1 x2 x3 x4 x5 x6 x7 x8 x9 x10 x11 x12 x13 x14 x15 x16 x17 x18 x19 x20
 obtain ⟨x0, x1, x2, x3, x4, x5, x6, x7, x8, x9, x10, x11, x12, x13, x14, x15, x16, x17, x18, x19, x20⟩ := BT3.out.cells21
 skip
 have hws := hZ (show [Lib.itoa at_] ++ [[110, 111, 110, 101]] = toldW ⟨tk, at_, ses, ⟨kd, rq, it, qt, dy, dz, rk, lo, ln, parts, others⟩, ⟨er, id, ty, cd, st, lots, uses⟩⟩ from by unfold toldW; simp only; rw [if_neg n1, if_neg n2, if_neg n3, if_neg n4]; simp)
 have HX := hZ (show WrW W3 w.heap.size g (toldW ⟨tk, at_, ses, ⟨kd, rq, it, qt, dy, dz, rk, lo, ln, parts, others⟩, ⟨er, id, ty, cd, st, lots, uses⟩⟩) from by have := HW3.out; rw [hws.out] at this; exact this)
 clear HW3
 obtain ⟨rA, rc, r1, r2, r3⟩ := HX.out
 obtain ⟨rb, hrA, r4⟩ := r2.some_ (show 0 < (toldW ⟨tk, at_, ses, ⟨kd, rq, it, qt, dy, dz, rk, lo, ln, parts, others⟩, ⟨er, id, ty, cd, st, lots, uses⟩⟩).length from by have := hsh.out.2.1; omega)
 subst hrA
 have hst9 := hZ r2.slT
 have y0 : W3.cell? ⟨g, 0, none⟩ = some (.slice (some ⟨rb, 0, none⟩) (toldW ⟨tk, at_, ses, ⟨kd, rq, it, qt, dy, dz, rk, lo, ln, parts, others⟩, ⟨er, id, ty, cd, st, lots, uses⟩⟩).length rc) := r1.cell 0
 have hJ := hZ (join_any rb 0 _ rc _ _ hst9.out hsh.out.2.1 (by have := hsh.out.1; omega) (by have := hln.out; omega))
 clear r1 r2 r3 r4 hst9 HX
 generalize (toldW ⟨tk, at_, ses, ⟨kd, rq, it, qt, dy, dz, rk, lo, ln, parts, others⟩, ⟨er, id, ty, cd, st, lots, uses⟩⟩).length = nn at *
 go_wp2_with fail
 refine hJ.out.mono ?_
 rintro e W99 ⟨rfl, t99⟩
 have t99h := hZ t99
 clear t99 hJ
 go_wp2_with fail
 go_ret
 exact ⟨rfl, t03.out.and_ t99h.out⟩
end Go.Proofs.YtglojnmcbochaaaGreatDoor

