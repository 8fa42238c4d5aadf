/-
 ytglojnmcbochaaagreatdoor: laws and walks on the road to LinesNumbers, joined: RfS RfTh RfT1. Conditions stand at each theorem.
-/
import Derived.Test.YtglojnmcbochaaaGreatDoorURfQ
namespace Go.Proofs.YtglojnmcbochaaaGreatDoor
open Go.RowKit Go.Maps
set_option linter.unusedVariables false
set_option linter.unusedSimpArgs false

set_option maxRecDepth 100000 in
set_option maxHeartbeats 4000000 in
theorem rask_few (s : Sl) (w : World) (ws : WS) (hn : s.n = ws.length) (h2 : ws.length < 2) : Calls Tryz.prog 69 #[.slice s.A s.n s.c] w (RqPost ws w) := by
 have mixed : Tryz.prog.follows .mixedOrders = true := by kernel_rfl
 have hno := hZ (show askW ws = none from by
  match ws, h2 with
  | [], _ => rfl
  | [x], _ => rfl)
 obtain ⟨A, n, c⟩ := s
 simp only at hn ⊢
 have hl : (n : Int) < 2 := by omega
 have hl2 : ¬ (2 : Int) ≤ (n : Int) := by omega
 clear hn h2
 have xr := hZ (Blk.new w 28 #[.int .u8 0, .int .i64 0, .string ⟨#[]⟩, .int .i64 0, .int .i64 0, .int .i64 0, .int .i64 0, .int .i64 0, .int .i64 0, .slice none 0 0, .slice none 0 0])
 have tz := hZ ((Turned.refl (fun _ => False) w).alloc (.cells #[.int .u8 0, .int .i64 0, .string ⟨#[]⟩, .int .i64 0, .int .i64 0, .int .i64 0, .int .i64 0, .int .i64 0, .int .i64 0, .slice none 0 0, .slice none 0 0] 28))
 go_enter Tryz.func69, Tryz.ntmps69
 go_wp2_with fail
 obtain ⟨e0, e1, e2, e3, e4, e5, e6, e7, e8, e9, e10⟩ := xr.out.cells11
 refine bodyPost_ret (v := .tuple #[.agg #[.int .u8 0, .int .i64 0, .string ⟨#[]⟩, .int .i64 0, .int .i64 0, .int .i64 0, .int .i64 0, .int .i64 0, .int .i64 0, .slice none 0 0, .slice none 0 0], .bool false]) (by simp [results, Tryz.results69, go_sem, e0, e1, e2, e3, e4, e5, e6, e7, e8, e9, e10]) rfl ?_
 exact ⟨AskV.zero, AskS.nil, false, rfl, AskOwn.nil _ _ _ rfl rfl, AskV.Ok.zero, hno.out, tz.out⟩
theorem rask_any (s : Sl) (ws : WS) (w : World) (h : SlT w s ws) (hm : ∀ x ∈ ws, lenOk x) (hN : ws.length ≤ 1000000) : Calls Tryz.prog 69 #[.slice s.A s.n s.c] w (RqPost ws w) := by
 match ws, h, hm, hN with
 | [], h, hm, hN => exact rask_few s w [] h.len.symm (by simp)
 | [x], h, hm, hN => exact rask_few s w [x] h.len.symm (by simp)
 | x :: y :: t, h, hm, hN =>
  obtain ⟨A, n, c⟩ := s
  obtain ⟨b, off, hA, _⟩ := h.cells (show 0 < n by have := h.len; simp only [List.length_cons] at this; omega)
  simp only at hA
  subst hA
  exact rask_main b off n c x y t w h hm (by simp only [List.length_cons] at hN; omega)
end Go.Proofs.YtglojnmcbochaaaGreatDoor

namespace Go.Proofs.YtglojnmcbochaaaGreatDoor
open Go.RowKit Go.Maps
set_option linter.unusedVariables false
set_option linter.unusedSimpArgs false

theorem fates_step {rs : WS} {l : List Int} {y : List UInt8} {t : WS} (h : fatesW rs = (match fatesW (y :: t) with
  | none => none
  | some r => some (l ++ r))) : ((numL y).isSome = true ∧ fatesW rs = (match fatesW t with
  | none => none
  | some r => some ((l ++ [(numL y).getD 0]) ++ r))) ∨ ((numL y).isSome = false ∧ fatesW rs = none) := by
 have e : fatesW (y :: t) = (match numL y with
  | none => none
  | some n => match fatesW t with
   | none => none
   | some l => some (n :: l)) := by
  conv => lhs; unfold fatesW
  rfl
 rw [e] at h
 cases hn : numL y with
 | none =>
  rw [hn] at h
  exact .inr ⟨rfl, h⟩
 | some n =>
  rw [hn] at h
  refine .inl ⟨rfl, ?_⟩
  rw [h]
  cases fatesW t with
  | none => rfl
  | some r =>
   show some (l ++ (n :: r)) = some ((l ++ [n]) ++ r)
   rw [List.append_assoc]
   rfl
theorem arm_eq (y : List UInt8) (t : WS) : armC (y :: t) = (if ((numL y).isSome && t.isEmpty) then some { StepV.zero with kind := 7, num := (numL y).getD 0 } else none) := by
 show (match num1C y t with
  | some (n, []) => some ({ StepV.zero with kind := 7, num := n } : StepV)
  | _ => none) = _
 unfold num1C
 cases numL y with
 | none => rfl
 | some n => cases t <;> rfl
theorem run_eq (y : List UInt8) (t : WS) : runC (y :: t) = (if ((sessW y).isSome && t.isEmpty) then some { StepV.zero with kind := 2, session := (sessW y).getD 0 } else none) := by
 cases t with
 | nil =>
  show (match sessW y with
   | none => none
   | some n => some ({ StepV.zero with kind := 2, session := n } : StepV)) = _
  cases sessW y <;> rfl
 | cons a t => cases sessW y <;> rfl
theorem step_none {wd : List UInt8} (n_flush : ¬ wd = [102, 108, 117, 115, 104]) (n_mark : ¬ wd = [109, 97, 114, 107]) (n_open : ¬ wd = [111, 112, 101, 110]) (n_crash : ¬ wd = [99, 114, 97, 115, 104]) : stepW [wd] = none := by
 show stepC wd [] = none
 unfold stepC
 rw [if_neg n_flush, if_neg n_mark, if_neg n_open, if_neg n_crash]
 by_cases h1 : wd = [97, 114, 109]
 ·rw [if_pos h1]; rfl
 rw [if_neg h1]
 by_cases h2 : wd = [114, 117, 110]
 ·rw [if_pos h2]; rfl
 rw [if_neg h2]
 by_cases h3 : wd = [97, 115, 107]
 ·rw [if_pos h3]; rfl
 rw [if_neg h3]
structure RcW (w : World) (br bx : Nat) (rs : WS) (sA : Option Addr) (sn sc k : Nat) (l : List Int) (Fs : Sl) (W : World) : Prop where
 sl : SlT W ⟨sA, sn, sc⟩ rs
 mem : ∀ x ∈ rs, lenOk x
 few : rs.length ≤ 1000000 ∧ l.length ≤ k
 own : OwnE W 53 1 Fs.A Fs.n Fs.c (fateC l)
 fB : ∀ i, Fs.A = some ⟨i, 0, none⟩ → w.heap.size ≤ i
 ok : ∀ n ∈ l, I64 n
 xx : Blk W bx 31 #[.int .u8 5, .int .i64 0, .int .i64 0, .int .u8 0, .int .i64 0, .string ⟨#[]⟩, .int .i64 0, .int .i64 0, .int .i64 0, .int .i64 0, .int .i64 0, .int .i64 0, .slice none 0 0, .slice none 0 0, .slice Fs.A Fs.n Fs.c]
 res : Blk W br 31 #[.int .u8 0, .int .i64 0, .int .i64 0, .int .u8 0, .int .i64 0, .string ⟨#[]⟩, .int .i64 0, .int .i64 0, .int .i64 0, .int .i64 0, .int .i64 0, .int .i64 0, .slice none 0 0, .slice none 0 0, .slice none 0 0]
 t : Turned (fun _ => False) w W
 wA : ∀ b o, sA = some ⟨b, o, none⟩ → b < w.heap.size
 b1 : w.heap.size ≤ br
 b2 : br < bx
section
variable {w W W' : World} {br bx : Nat} {rs : WS} {sA : Option Addr} {sn sc k : Nat} {l : List Int} {Fs : Sl}
theorem RcW.start (h1 : Blk W bx 31 #[.int .u8 0, .int .i64 0, .int .i64 0, .int .u8 0, .int .i64 0, .string ⟨#[]⟩, .int .i64 0, .int .i64 0, .int .i64 0, .int .i64 0, .int .i64 0, .int .i64 0, .slice none 0 0, .slice none 0 0, .slice none 0 0]) (h2 : Blk W br 31 #[.int .u8 0, .int .i64 0, .int .i64 0, .int .u8 0, .int .i64 0, .string ⟨#[]⟩, .int .i64 0, .int .i64 0, .int .i64 0, .int .i64 0, .int .i64 0, .int .i64 0, .slice none 0 0, .slice none 0 0, .slice none 0 0]) (h3 : Turned (fun _ => False) w W) (h4 : SlT W ⟨sA, sn, sc⟩ rs) (h5 : ∀ x ∈ rs, lenOk x) (h6 : rs.length ≤ 1000000) (h7 : ∀ b o, sA = some ⟨b, o, none⟩ → b < w.heap.size) (h8 : w.heap.size ≤ br) (h9 : br < bx) : RcW w br bx rs sA sn sc 0 [] Sl.nil (W.setCell ⟨bx, 0, none⟩ (.int .u8 5)) := by
 have tS := turned_one W bx 0 (.int .u8 5)
 have x := h1.set_ 0 (.int .u8 5)
 simp only [zA, zB] at x
 exact ⟨h4.turned tS (fun b o e k => by have := h7 b o e; omega), h5, ⟨h6, Nat.le_refl _⟩, OwnE.nil _ _ _, (fun i e => by cases e), (fun n h => by cases h), x, h2.turned tS (by omega), h3.trans tS (fun _ e => e) (fun i e => .inr (by subst e; omega)), h7, h8, h9⟩
theorem RcW.fresh (h : RcW w br bx rs sA sn sc k l Fs W) (ht : Turned (fun _ => False) W W') : RcW w br bx rs sA sn sc k l Fs W' := ⟨h.sl.fresh ht, h.mem, h.few, h.own.fresh ht, h.fB, h.ok, h.xx.turned ht (fun e => e), h.res.turned ht (fun e => e), h.t.and_ ht, h.wA, h.b1, h.b2⟩
theorem RcW.grow {V : Nat → Prop} {A' : Option Addr} {c' : Nat} {n : Int} (h : RcW w br bx rs sA sn sc k l Fs W) (ht : Turned V W W') (hV : ∀ i, V i → Fs.A = some ⟨i, 0, none⟩) (ho : OwnE W' 53 1 A' (Fs.n + 1) c' (fateC (l ++ [n]))) (hfB : ∀ i, A' = some ⟨i, 0, none⟩ → w.heap.size ≤ i) (hn : I64 n) : RcW w br bx rs sA sn sc (k + 1) (l ++ [n]) ⟨A', Fs.n + 1, c'⟩ (W'.setCell ⟨bx, 14, none⟩ (.slice A' (Fs.n + 1) c')) := by
 have g3 := h.b1
 have g4 := h.b2
 have hVB : ∀ i, V i → w.heap.size ≤ i := fun i e => h.fB i (hV i e)
 have hVx : ¬ V bx := fun e => h.own.blk h.xx (by decide) (hV _ e) rfl
 have hVr : ¬ V br := fun e => h.own.blk h.res (by decide) (hV _ e) rfl
 have tS := turned_one W' bx 14 (.slice A' (Fs.n + 1) c')
 have xx' := h.xx.turned ht hVx
 refine ⟨(h.sl.turned ht (fun b o e k => by have := h.wA b o e; have := hVB b k; omega)).turned tS (fun b o e k => by have := h.wA b o e; omega), h.mem, ⟨h.few.1, by rw [List.length_append]; have := h.few.2; simp only [List.length_cons, List.length_nil]; omega⟩, ho.turned tS (fun i e k => ho.blk xx' (by decide) e k), hfB, fun m hm => ?_, ?_, (h.res.turned ht hVr).turned tS (by omega), (h.t.trans ht (fun _ e => e) (fun j e => .inr (hVB j e))).trans tS (fun _ e => e) (fun j e => .inr (by subst e; omega)), h.wA, h.b1, h.b2⟩
 ·rcases List.mem_append.1 hm with hm | hm
  ·exact h.ok m hm
  ·simp only [List.mem_singleton] at hm
   subst hm
   exact hn
 ·have := xx'.set_ 14 (.slice A' (Fs.n + 1) c')
  simp only [zA, zB, zC] at this
  exact this
theorem RcW.resH (h : RcW w br bx rs sA sn sc k l Fs W) : Hid (Blk W br 31 #[.int .u8 0, .int .i64 0, .int .i64 0, .int .u8 0, .int .i64 0, .string ⟨#[]⟩, .int .i64 0, .int .i64 0, .int .i64 0, .int .i64 0, .int .i64 0, .int .i64 0, .slice none 0 0, .slice none 0 0, .slice none 0 0]) := hZ h.res
theorem RcW.tH (h : RcW w br bx rs sA sn sc k l Fs W) : Hid (Turned (fun _ => False) w W) := hZ h.t
end
def RcRel (w : World) (br bx : Nat) (rs : WS) (sA : Option Addr) (sn sc : Nat) (i : Value) (wr : World) : Prop :=
 ∃ (k : Nat) (l : List Int) (Fs : Sl), k ≤ rs.length ∧ i = .int .i64 k ∧ RcW w br bx rs sA sn sc k l Fs wr ∧ fatesW rs = (match fatesW (rs.drop k) with
  | none => none
  | some r => some (l ++ r))
def RtAsk (W2 : World) (t : WS) (u13 u14 : Value) (wc : World) : Prop :=
 ∃ x S ab bz, u13 = .pointer (some ⟨bz, 0, none⟩) ∧ u14 = .bool ab ∧ W2.heap.size ≤ bz ∧ Blk wc bz 28 (askC x S) ∧ AskOwn wc W2.heap.size x S ∧ x.Ok ∧ askW t = (if ab then some x else none) ∧ Turned (fun _ => False) W2 wc
theorem RtAsk.of {W2 W5 : World} {t : WS} {x : AskV} {S : AskS} {ab : Bool} (h1 : AskOwn W5 W2.heap.size x S) (h2 : x.Ok) (h3 : askW t = (if ab then some x else none)) (h4 : Turned (fun _ => False) W2 W5) : RtAsk W2 t (.pointer (some ⟨W5.heap.size, 0, none⟩)) (.bool ab) (W5.alloc (.cells (askC x S) 28)) := by
 have tb := (Turned.refl (fun _ => False) W5).alloc (.cells (askC x S) 28)
 exact ⟨x, S, ab, W5.heap.size, rfl, rfl, h4.size, Blk.new _ _ _, h1.fresh tb, h2, h3, h4.and_ tb⟩
def RtPost (ws : WS) (w : World) (e : Ending) (w' : World) : Prop :=
 ∃ x S Fs b, e = .returned (.tuple #[.agg (stpC x S Fs), .bool b]) ∧ StpOwn w' w.heap.size x S Fs ∧ x.Ok ∧ stepW ws = (if b then some x else none) ∧ Turned (fun _ => False) w w'
theorem rstep_nil (s : Sl) (w : World) (hn : s.n = 0) : Calls Tryz.prog 27 #[.slice s.A s.n s.c] w (RtPost [] w) := by
 obtain ⟨A, n, c⟩ := s
 simp only at hn ⊢
 subst hn
 have xr := hZ (Blk.new w 31 #[.int .u8 0, .int .i64 0, .int .i64 0, .int .u8 0, .int .i64 0, .string ⟨#[]⟩, .int .i64 0, .int .i64 0, .int .i64 0, .int .i64 0, .int .i64 0, .int .i64 0, .slice none 0 0, .slice none 0 0, .slice none 0 0])
 have tz := hZ ((Turned.refl (fun _ => False) w).alloc (.cells #[.int .u8 0, .int .i64 0, .int .i64 0, .int .u8 0, .int .i64 0, .string ⟨#[]⟩, .int .i64 0, .int .i64 0, .int .i64 0, .int .i64 0, .int .i64 0, .int .i64 0, .slice none 0 0, .slice none 0 0, .slice none 0 0] 31))
 go_enter Tryz.func27, Tryz.ntmps27
 go_wp2_with fail
 obtain ⟨e0, e1, e2, e3, e4, e5, e6, e7, e8, e9, e10, e11, e12, e13, e14⟩ := xr.out.cells15
 refine bodyPost_ret (v := .tuple #[.agg #[.int .u8 0, .int .i64 0, .int .i64 0, .int .u8 0, .int .i64 0, .string ⟨#[]⟩, .int .i64 0, .int .i64 0, .int .i64 0, .int .i64 0, .int .i64 0, .int .i64 0, .slice none 0 0, .slice none 0 0, .slice none 0 0], .bool false]) (by simp [results, Tryz.results27, go_sem, e0, e1, e2, e3, e4, e5, e6, e7, e8, e9, e10, e11, e12, e13, e14]) rfl ?_
 exact ⟨StepV.zero, AskS.nil, Sl.nil, false, rfl, StpOwn.nil _ _ _ rfl rfl rfl, ⟨(show isByte (0 : Int) by unfold isByte; decide), I64_zero, I64_zero, AskV.Ok.zero, fun n h => (by cases h)⟩, rfl, tz.out⟩
end Go.Proofs.YtglojnmcbochaaaGreatDoor

namespace Go.Proofs.YtglojnmcbochaaaGreatDoor
open Go.RowKit Go.Maps
set_option linter.unusedVariables false
set_option linter.unusedSimpArgs false

set_option maxRecDepth 100000 in
set_option maxHeartbeats 8000000 in
theorem rstep_fl (b off n c : Nat) (wd : List UInt8) (rs : WS) (w : World) (h : SlT w ⟨some ⟨b, off, none⟩, n, c⟩ (wd :: rs)) (hm : ∀ x ∈ wd :: rs, lenOk x) (hN : rs.length + 1 ≤ 1000000) (hx0 : wd = [102, 108, 117, 115, 104]) : Calls Tryz.prog 27 #[.slice (some ⟨b, off, none⟩) n c] w (RtPost (wd :: rs) w) := by
 have mixed : Tryz.prog.follows .mixedOrders = true := by kernel_rfl
 have hn2 : n = rs.length + 1 := by have := h.len; simp only [List.length_cons] at this; omega
 have hc0 : w.cell? ⟨b, off, none⟩ = some (.string ⟨wd.toArray⟩) := by
  obtain ⟨b2, off2, hA, hc⟩ := h.cells (show 0 < n by omega)
  simp only at hA
  injection hA with hA
  injection hA with e1 e2
  subst e1 e2
  exact hc 0 (show 0 < n by omega)
 have hb : b < w.heap.size := World.block_lt_of_cell? w ⟨b, off, none⟩ hc0
 have hle := h.le
 have hmx := h.max
 unfold maxLen at hmx
 simp only at hle hmx
 have hn1 : (1 : Int) ≤ (n : Int) := by omega
 have hn0 : ((n : Int) == 0) = false := by simp; omega
 have hnp : 0 < n := by omega
 have hnp2 : (0 : Int) < (n : Int) := by omega
 have hx := hZ hx0
 clear hx0
 have h' := hZ h
 have hm' := hZ hm
 have hn2' := hZ hn2
 have hst := hZ (show stepW (wd :: rs) = (if wd = [102, 108, 117, 115, 104] then only rs { StepV.zero with kind := 3 }
  else if wd = [109, 97, 114, 107] then only rs { StepV.zero with kind := 4 }
  else if wd = [111, 112, 101, 110] then only rs { StepV.zero with kind := 6 }
  else if wd = [99, 114, 97, 115, 104] then crashC rs
  else if wd = [97, 114, 109] then armC rs
  else if wd = [114, 117, 110] then runC rs
  else if wd = [97, 115, 107] then askC0 rs
  else none) from rfl)
 clear h hm hn2
 go_enter Tryz.func27, Tryz.ntmps27
 go_upto_region 3 with fail
 have ta := hZ ((Turned.refl (fun _ => False) w).alloc (.cells #[.int .u8 0, .int .i64 0, .int .i64 0, .int .u8 0, .int .i64 0, .string ⟨#[]⟩, .int .i64 0, .int .i64 0, .int .i64 0, .int .i64 0, .int .i64 0, .int .i64 0, .slice none 0 0, .slice none 0 0, .slice none 0 0] 31))
 have xr := hZ (Blk.new w 31 #[.int .u8 0, .int .i64 0, .int .i64 0, .int .u8 0, .int .i64 0, .string ⟨#[]⟩, .int .i64 0, .int .i64 0, .int .i64 0, .int .i64 0, .int .i64 0, .int .i64 0, .slice none 0 0, .slice none 0 0, .slice none 0 0])
 obtain ⟨wa, hwa⟩ : ∃ wa, wa = w.alloc (.cells #[.int .u8 0, .int .i64 0, .int .i64 0, .int .u8 0, .int .i64 0, .string ⟨#[]⟩, .int .i64 0, .int .i64 0, .int .i64 0, .int .i64 0, .int .i64 0, .int .i64 0, .slice none 0 0, .slice none 0 0, .slice none 0 0] 31) := ⟨_, rfl⟩
 have hza : wa.heap.size = w.heap.size + 1 := by rw [hwa]; simp
 rw [← hwa] at ta xr ⊢
 clear hwa
 have ha0 : wa.cell? ⟨b, off, none⟩ = some (.string ⟨wd.toArray⟩) := cell_turned ta.out hc0 (fun e => e)
 have hsa := hZ (h'.out.fresh ta.out)
 clear hc0 h'
 obtain ⟨br, hbr⟩ : ∃ br, w.heap.size = br := ⟨_, rfl⟩
 rw [hbr] at xr hza hb ⊢
 have hzq := hZ hza
 clear hza
 have hbrw := hZ hbr
 clear hbr
 go_cut [4] from 3 to 4 (fun u4 wc => ∃ s0 : Sl, u4 = .slice s0.A s0.n s0.c ∧ wc = wa ∧ SlT wa s0 rs ∧ (∀ b' o, s0.A = some ⟨b', o, none⟩ → b' = b))
 case first =>
  clear ha0
  go_wp2_with fail
  ·have hc1 : c = 1 := by assumption
   subst hc1
   go_meet
   have := hsa.out.dropAll 1 (by have := hn2'.out; omega) rfl
   exact ⟨⟨some ⟨b, off, none⟩, n - 1, 0⟩, rfl, rfl, this, (fun b' o e => by injection e with e; injection e with e _; exact e.symm)⟩
  ·go_meet
   have := hsa.out.dropK 1 (by have := hn2'.out; omega)
   exact ⟨⟨some ⟨b, off + 1, none⟩, n - 1, c - 1⟩, rfl, rfl, this, (fun b' o e => by injection e with e; injection e with e _; exact e.symm)⟩
 case rest =>
  obtain ⟨⟨sA, sn, sc⟩, rfl, rfl, R0z, hAb⟩ := hcut
  have R0y := hZ R0z
  clear R0z
  have hAc := hZ hAb
  clear hAb
  have hmr := hZ (show ∀ y ∈ rs, lenOk y from fun y hy => hm'.out y (by simp [hy]))
  have hrN := hZ (show rs.length ≤ 1000000 by omega)
  clear hm' hsa hn2' hN hle hmx hn1 hn0
  have tb := (Turned.refl (fun _ => False) wc).alloc (.cells #[.int .u8 0, .int .i64 0, .int .i64 0, .int .u8 0, .int .i64 0, .string ⟨#[]⟩, .int .i64 0, .int .i64 0, .int .i64 0, .int .i64 0, .int .i64 0, .int .i64 0, .slice none 0 0, .slice none 0 0, .slice none 0 0] 31)
  have XX := hZ (Blk.new wc 31 #[.int .u8 0, .int .i64 0, .int .i64 0, .int .u8 0, .int .i64 0, .string ⟨#[]⟩, .int .i64 0, .int .i64 0, .int .i64 0, .int .i64 0, .int .i64 0, .int .i64 0, .slice none 0 0, .slice none 0 0, .slice none 0 0])
  have XR := hZ (xr.out.turned tb (fun e => e))
  have TT := hZ (ta.out.and_ tb)
  have R0 := hZ (R0y.out.fresh tb)
  have hc0 : (wc.alloc (.cells #[.int .u8 0, .int .i64 0, .int .i64 0, .int .u8 0, .int .i64 0, .string ⟨#[]⟩, .int .i64 0, .int .i64 0, .int .i64 0, .int .i64 0, .int .i64 0, .int .i64 0, .slice none 0 0, .slice none 0 0, .slice none 0 0] 31)).cell? ⟨b, off, none⟩ = some (.string ⟨wd.toArray⟩) := cell_turned tb ha0 (fun e => e)
  have hz2 := hZ (show (wc.alloc (.cells #[.int .u8 0, .int .i64 0, .int .i64 0, .int .u8 0, .int .i64 0, .string ⟨#[]⟩, .int .i64 0, .int .i64 0, .int .i64 0, .int .i64 0, .int .i64 0, .int .i64 0, .slice none 0 0, .slice none 0 0, .slice none 0 0] 31)).heap.size = br + 2 from by rw [World.size_alloc, hzq.out])
  clear tb xr ta ha0 R0y
  go_upto_block 0 with fail
  obtain ⟨W2, hW2⟩ : ∃ W2, W2 = wc.alloc (.cells #[.int .u8 0, .int .i64 0, .int .i64 0, .int .u8 0, .int .i64 0, .string ⟨#[]⟩, .int .i64 0, .int .i64 0, .int .i64 0, .int .i64 0, .int .i64 0, .int .i64 0, .slice none 0 0, .slice none 0 0, .slice none 0 0] 31) := ⟨_, rfl⟩
  rw [← hW2] at XX XR TT R0 hc0 hz2 ⊢
  clear hW2
  obtain ⟨bx, hbx⟩ : ∃ bx, wc.heap.size = bx := ⟨_, rfl⟩
  rw [hbx] at XX ⊢
  have hbb : br < bx := by have := hzq.out; omega
  have hw0 : w.heap.size ≤ br := by have := hbrw.out; omega
  have hbw : b < w.heap.size := by have := hbrw.out; omega
  clear hbx hzq hbrw
  have h_flush := hx.out
  have q_flush : (wd == [102, 108, 117, 115, 104]) = true := by rw [h_flush]; rfl
  have hs := hst.out
  rw [if_pos h_flush] at hs
  have hs := hZ hs
  clear hst h_flush
  obtain ⟨z0, z1, z2, z3, z4, z5, z6, z7, z8, z9, z10, z11, z12, z13, z14⟩ := XX.out.cells15
  have zf := XX.out.frozen
  obtain ⟨y0, y1, y2, y3, y4, y5, y6, y7, y8, y9, y10, y11, y12, y13, y14⟩ := XR.out.cells15
  have yf := XR.out.frozen
  have tS := turned_one W2 bx 0 (.int .u8 3)
  have XR2 := hZ (XR.out.turned tS (by omega))
  have TT2 := hZ (TT.out.trans tS (fun _ e => e) (fun i e => .inr (by subst e; omega)))
  clear tS
  cases rs with
  | nil =>
   have hl0 : sn = 0 := R0.out.len.symm
   have hl1 : ((sn : Int) == 0) = true := by rw [hl0]; rfl
   clear hl0
   go_wp2_with fail
   obtain ⟨wz, hwz, XZ, tZ⟩ := fin15 (.int .u8 3) (.int .i64 0) (.int .i64 0) (.int .u8 0) (.int .i64 0) (.string ⟨#[]⟩) (.int .i64 0) (.int .i64 0) (.int .i64 0) (.int .i64 0) (.int .i64 0) (.int .i64 0) (.slice none 0 0) (.slice none 0 0) (.slice none 0 0) XR2.out
   rw [hwz]
   clear hwz
   obtain ⟨e0, e1, e2, e3, e4, e5, e6, e7, e8, e9, e10, e11, e12, e13, e14⟩ := XZ.cells15
   refine bodyPost_ret (v := .tuple #[.agg #[.int .u8 3, .int .i64 0, .int .i64 0, .int .u8 0, .int .i64 0, .string ⟨#[]⟩, .int .i64 0, .int .i64 0, .int .i64 0, .int .i64 0, .int .i64 0, .int .i64 0, .slice none 0 0, .slice none 0 0, .slice none 0 0], .bool true]) (by simp [results, Tryz.results27, go_sem, e0, e1, e2, e3, e4, e5, e6, e7, e8, e9, e10, e11, e12, e13, e14]) rfl ?_
   exact ⟨{ StepV.zero with kind := 3 }, AskS.nil, Sl.nil, true, rfl, StpOwn.nil _ _ _ rfl rfl rfl, ⟨(show isByte (3 : Int) by unfold isByte; decide), I64_zero, I64_zero, AskV.Ok.zero, (fun n h => by cases h)⟩, hs.out, TT2.out.trans tZ (fun _ e => e) (fun i e => .inr (by subst e; omega))⟩
  | cons y t =>
   have hl0 := R0.out.len
   simp only [List.length_cons] at hl0
   have hl1 : ((sn : Int) == 0) = false := by simp; omega
   clear hl0
   go_wp2_with fail
   obtain ⟨wz, hwz, XZ, tZ⟩ := fin15 (.int .u8 3) (.int .i64 0) (.int .i64 0) (.int .u8 0) (.int .i64 0) (.string ⟨#[]⟩) (.int .i64 0) (.int .i64 0) (.int .i64 0) (.int .i64 0) (.int .i64 0) (.int .i64 0) (.slice none 0 0) (.slice none 0 0) (.slice none 0 0) XR2.out
   rw [hwz]
   clear hwz
   obtain ⟨e0, e1, e2, e3, e4, e5, e6, e7, e8, e9, e10, e11, e12, e13, e14⟩ := XZ.cells15
   refine bodyPost_ret (v := .tuple #[.agg #[.int .u8 3, .int .i64 0, .int .i64 0, .int .u8 0, .int .i64 0, .string ⟨#[]⟩, .int .i64 0, .int .i64 0, .int .i64 0, .int .i64 0, .int .i64 0, .int .i64 0, .slice none 0 0, .slice none 0 0, .slice none 0 0], .bool false]) (by simp [results, Tryz.results27, go_sem, e0, e1, e2, e3, e4, e5, e6, e7, e8, e9, e10, e11, e12, e13, e14]) rfl ?_
   exact ⟨{ StepV.zero with kind := 3 }, AskS.nil, Sl.nil, false, rfl, StpOwn.nil _ _ _ rfl rfl rfl, ⟨(show isByte (3 : Int) by unfold isByte; decide), I64_zero, I64_zero, AskV.Ok.zero, (fun n h => by cases h)⟩, hs.out, TT2.out.trans tZ (fun _ e => e) (fun i e => .inr (by subst e; omega))⟩
set_option maxRecDepth 100000 in
set_option maxHeartbeats 8000000 in
theorem rstep_mk (b off n c : Nat) (wd : List UInt8) (rs : WS) (w : World) (h : SlT w ⟨some ⟨b, off, none⟩, n, c⟩ (wd :: rs)) (hm : ∀ x ∈ wd :: rs, lenOk x) (hN : rs.length + 1 ≤ 1000000) (hx0 : wd = [109, 97, 114, 107]) : Calls Tryz.prog 27 #[.slice (some ⟨b, off, none⟩) n c] w (RtPost (wd :: rs) w) := by
 have mixed : Tryz.prog.follows .mixedOrders = true := by kernel_rfl
 have hn2 : n = rs.length + 1 := by have := h.len; simp only [List.length_cons] at this; omega
 have hc0 : w.cell? ⟨b, off, none⟩ = some (.string ⟨wd.toArray⟩) := by
  obtain ⟨b2, off2, hA, hc⟩ := h.cells (show 0 < n by omega)
  simp only at hA
  injection hA with hA
  injection hA with e1 e2
  subst e1 e2
  exact hc 0 (show 0 < n by omega)
 have hb : b < w.heap.size := World.block_lt_of_cell? w ⟨b, off, none⟩ hc0
 have hle := h.le
 have hmx := h.max
 unfold maxLen at hmx
 simp only at hle hmx
 have hn1 : (1 : Int) ≤ (n : Int) := by omega
 have hn0 : ((n : Int) == 0) = false := by simp; omega
 have hnp : 0 < n := by omega
 have hnp2 : (0 : Int) < (n : Int) := by omega
 have hx := hZ hx0
 clear hx0
 have h' := hZ h
 have hm' := hZ hm
 have hn2' := hZ hn2
 have hst := hZ (show stepW (wd :: rs) = (if wd = [102, 108, 117, 115, 104] then only rs { StepV.zero with kind := 3 }
  else if wd = [109, 97, 114, 107] then only rs { StepV.zero with kind := 4 }
  else if wd = [111, 112, 101, 110] then only rs { StepV.zero with kind := 6 }
  else if wd = [99, 114, 97, 115, 104] then crashC rs
  else if wd = [97, 114, 109] then armC rs
  else if wd = [114, 117, 110] then runC rs
  else if wd = [97, 115, 107] then askC0 rs
  else none) from rfl)
 clear h hm hn2
 go_enter Tryz.func27, Tryz.ntmps27
 go_upto_region 3 with fail
 have ta := hZ ((Turned.refl (fun _ => False) w).alloc (.cells #[.int .u8 0, .int .i64 0, .int .i64 0, .int .u8 0, .int .i64 0, .string ⟨#[]⟩, .int .i64 0, .int .i64 0, .int .i64 0, .int .i64 0, .int .i64 0, .int .i64 0, .slice none 0 0, .slice none 0 0, .slice none 0 0] 31))
 have xr := hZ (Blk.new w 31 #[.int .u8 0, .int .i64 0, .int .i64 0, .int .u8 0, .int .i64 0, .string ⟨#[]⟩, .int .i64 0, .int .i64 0, .int .i64 0, .int .i64 0, .int .i64 0, .int .i64 0, .slice none 0 0, .slice none 0 0, .slice none 0 0])
 obtain ⟨wa, hwa⟩ : ∃ wa, wa = w.alloc (.cells #[.int .u8 0, .int .i64 0, .int .i64 0, .int .u8 0, .int .i64 0, .string ⟨#[]⟩, .int .i64 0, .int .i64 0, .int .i64 0, .int .i64 0, .int .i64 0, .int .i64 0, .slice none 0 0, .slice none 0 0, .slice none 0 0] 31) := ⟨_, rfl⟩
 have hza : wa.heap.size = w.heap.size + 1 := by rw [hwa]; simp
 rw [← hwa] at ta xr ⊢
 clear hwa
 have ha0 : wa.cell? ⟨b, off, none⟩ = some (.string ⟨wd.toArray⟩) := cell_turned ta.out hc0 (fun e => e)
 have hsa := hZ (h'.out.fresh ta.out)
 clear hc0 h'
 obtain ⟨br, hbr⟩ : ∃ br, w.heap.size = br := ⟨_, rfl⟩
 rw [hbr] at xr hza hb ⊢
 have hzq := hZ hza
 clear hza
 have hbrw := hZ hbr
 clear hbr
 go_cut [4] from 3 to 4 (fun u4 wc => ∃ s0 : Sl, u4 = .slice s0.A s0.n s0.c ∧ wc = wa ∧ SlT wa s0 rs ∧ (∀ b' o, s0.A = some ⟨b', o, none⟩ → b' = b))
 case first =>
  clear ha0
  go_wp2_with fail
  ·have hc1 : c = 1 := by assumption
   subst hc1
   go_meet
   have := hsa.out.dropAll 1 (by have := hn2'.out; omega) rfl
   exact ⟨⟨some ⟨b, off, none⟩, n - 1, 0⟩, rfl, rfl, this, (fun b' o e => by injection e with e; injection e with e _; exact e.symm)⟩
  ·go_meet
   have := hsa.out.dropK 1 (by have := hn2'.out; omega)
   exact ⟨⟨some ⟨b, off + 1, none⟩, n - 1, c - 1⟩, rfl, rfl, this, (fun b' o e => by injection e with e; injection e with e _; exact e.symm)⟩
 case rest =>
  obtain ⟨⟨sA, sn, sc⟩, rfl, rfl, R0z, hAb⟩ := hcut
  have R0y := hZ R0z
  clear R0z
  have hAc := hZ hAb
  clear hAb
  have hmr := hZ (show ∀ y ∈ rs, lenOk y from fun y hy => hm'.out y (by simp [hy]))
  have hrN := hZ (show rs.length ≤ 1000000 by omega)
  clear hm' hsa hn2' hN hle hmx hn1 hn0
  have tb := (Turned.refl (fun _ => False) wc).alloc (.cells #[.int .u8 0, .int .i64 0, .int .i64 0, .int .u8 0, .int .i64 0, .string ⟨#[]⟩, .int .i64 0, .int .i64 0, .int .i64 0, .int .i64 0, .int .i64 0, .int .i64 0, .slice none 0 0, .slice none 0 0, .slice none 0 0] 31)
  have XX := hZ (Blk.new wc 31 #[.int .u8 0, .int .i64 0, .int .i64 0, .int .u8 0, .int .i64 0, .string ⟨#[]⟩, .int .i64 0, .int .i64 0, .int .i64 0, .int .i64 0, .int .i64 0, .int .i64 0, .slice none 0 0, .slice none 0 0, .slice none 0 0])
  have XR := hZ (xr.out.turned tb (fun e => e))
  have TT := hZ (ta.out.and_ tb)
  have R0 := hZ (R0y.out.fresh tb)
  have hc0 : (wc.alloc (.cells #[.int .u8 0, .int .i64 0, .int .i64 0, .int .u8 0, .int .i64 0, .string ⟨#[]⟩, .int .i64 0, .int .i64 0, .int .i64 0, .int .i64 0, .int .i64 0, .int .i64 0, .slice none 0 0, .slice none 0 0, .slice none 0 0] 31)).cell? ⟨b, off, none⟩ = some (.string ⟨wd.toArray⟩) := cell_turned tb ha0 (fun e => e)
  have hz2 := hZ (show (wc.alloc (.cells #[.int .u8 0, .int .i64 0, .int .i64 0, .int .u8 0, .int .i64 0, .string ⟨#[]⟩, .int .i64 0, .int .i64 0, .int .i64 0, .int .i64 0, .int .i64 0, .int .i64 0, .slice none 0 0, .slice none 0 0, .slice none 0 0] 31)).heap.size = br + 2 from by rw [World.size_alloc, hzq.out])
  clear tb xr ta ha0 R0y
  go_upto_block 0 with fail
  obtain ⟨W2, hW2⟩ : ∃ W2, W2 = wc.alloc (.cells #[.int .u8 0, .int .i64 0, .int .i64 0, .int .u8 0, .int .i64 0, .string ⟨#[]⟩, .int .i64 0, .int .i64 0, .int .i64 0, .int .i64 0, .int .i64 0, .int .i64 0, .slice none 0 0, .slice none 0 0, .slice none 0 0] 31) := ⟨_, rfl⟩
  rw [← hW2] at XX XR TT R0 hc0 hz2 ⊢
  clear hW2
  obtain ⟨bx, hbx⟩ : ∃ bx, wc.heap.size = bx := ⟨_, rfl⟩
  rw [hbx] at XX ⊢
  have hbb : br < bx := by have := hzq.out; omega
  have hw0 : w.heap.size ≤ br := by have := hbrw.out; omega
  have hbw : b < w.heap.size := by have := hbrw.out; omega
  clear hbx hzq hbrw
  have h_flush : ¬ wd = [102, 108, 117, 115, 104] := by rw [hx.out]; decide
  have n_flush := h_flush
  clear h_flush
  have q_flush : (wd == [102, 108, 117, 115, 104]) = false := beq_eq_false_iff_ne.2 n_flush
  have h_mark := hx.out
  have q_mark : (wd == [109, 97, 114, 107]) = true := by rw [h_mark]; rfl
  have hs := hst.out
  rw [if_neg n_flush] at hs
  rw [if_pos h_mark] at hs
  have hs := hZ hs
  clear hst h_mark
  obtain ⟨z0, z1, z2, z3, z4, z5, z6, z7, z8, z9, z10, z11, z12, z13, z14⟩ := XX.out.cells15
  have zf := XX.out.frozen
  obtain ⟨y0, y1, y2, y3, y4, y5, y6, y7, y8, y9, y10, y11, y12, y13, y14⟩ := XR.out.cells15
  have yf := XR.out.frozen
  have tS := turned_one W2 bx 0 (.int .u8 4)
  have XR2 := hZ (XR.out.turned tS (by omega))
  have TT2 := hZ (TT.out.trans tS (fun _ e => e) (fun i e => .inr (by subst e; omega)))
  clear tS
  cases rs with
  | nil =>
   have hl0 : sn = 0 := R0.out.len.symm
   have hl1 : ((sn : Int) == 0) = true := by rw [hl0]; rfl
   clear hl0
   go_wp2_with fail
   obtain ⟨wz, hwz, XZ, tZ⟩ := fin15 (.int .u8 4) (.int .i64 0) (.int .i64 0) (.int .u8 0) (.int .i64 0) (.string ⟨#[]⟩) (.int .i64 0) (.int .i64 0) (.int .i64 0) (.int .i64 0) (.int .i64 0) (.int .i64 0) (.slice none 0 0) (.slice none 0 0) (.slice none 0 0) XR2.out
   rw [hwz]
   clear hwz
   obtain ⟨e0, e1, e2, e3, e4, e5, e6, e7, e8, e9, e10, e11, e12, e13, e14⟩ := XZ.cells15
   refine bodyPost_ret (v := .tuple #[.agg #[.int .u8 4, .int .i64 0, .int .i64 0, .int .u8 0, .int .i64 0, .string ⟨#[]⟩, .int .i64 0, .int .i64 0, .int .i64 0, .int .i64 0, .int .i64 0, .int .i64 0, .slice none 0 0, .slice none 0 0, .slice none 0 0], .bool true]) (by simp [results, Tryz.results27, go_sem, e0, e1, e2, e3, e4, e5, e6, e7, e8, e9, e10, e11, e12, e13, e14]) rfl ?_
   exact ⟨{ StepV.zero with kind := 4 }, AskS.nil, Sl.nil, true, rfl, StpOwn.nil _ _ _ rfl rfl rfl, ⟨(show isByte (4 : Int) by unfold isByte; decide), I64_zero, I64_zero, AskV.Ok.zero, (fun n h => by cases h)⟩, hs.out, TT2.out.trans tZ (fun _ e => e) (fun i e => .inr (by subst e; omega))⟩
  | cons y t =>
   have hl0 := R0.out.len
   simp only [List.length_cons] at hl0
   have hl1 : ((sn : Int) == 0) = false := by simp; omega
   clear hl0
   go_wp2_with fail
   obtain ⟨wz, hwz, XZ, tZ⟩ := fin15 (.int .u8 4) (.int .i64 0) (.int .i64 0) (.int .u8 0) (.int .i64 0) (.string ⟨#[]⟩) (.int .i64 0) (.int .i64 0) (.int .i64 0) (.int .i64 0) (.int .i64 0) (.int .i64 0) (.slice none 0 0) (.slice none 0 0) (.slice none 0 0) XR2.out
   rw [hwz]
   clear hwz
   obtain ⟨e0, e1, e2, e3, e4, e5, e6, e7, e8, e9, e10, e11, e12, e13, e14⟩ := XZ.cells15
   refine bodyPost_ret (v := .tuple #[.agg #[.int .u8 4, .int .i64 0, .int .i64 0, .int .u8 0, .int .i64 0, .string ⟨#[]⟩, .int .i64 0, .int .i64 0, .int .i64 0, .int .i64 0, .int .i64 0, .int .i64 0, .slice none 0 0, .slice none 0 0, .slice none 0 0], .bool false]) (by simp [results, Tryz.results27, go_sem, e0, e1, e2, e3, e4, e5, e6, e7, e8, e9, e10, e11, e12, e13, e14]) rfl ?_
   exact ⟨{ StepV.zero with kind := 4 }, AskS.nil, Sl.nil, false, rfl, StpOwn.nil _ _ _ rfl rfl rfl, ⟨(show isByte (4 : Int) by unfold isByte; decide), I64_zero, I64_zero, AskV.Ok.zero, (fun n h => by cases h)⟩, hs.out, TT2.out.trans tZ (fun _ e => e) (fun i e => .inr (by subst e; omega))⟩
end Go.Proofs.YtglojnmcbochaaaGreatDoor

