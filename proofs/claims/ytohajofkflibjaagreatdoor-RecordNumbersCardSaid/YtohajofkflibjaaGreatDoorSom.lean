/-
  storemanlaw19.some: eight right records. No condition.
-/
import Derived.Test.YtohajofkflibjaaGreatDoorBnA
import Derived.Test.YtohajofkflibjaaGreatDoorRegD
import Derived.Test.YtohajofkflibjaaGreatDoorAp4
import Derived.Deep.CutRange
namespace Go.Proofs.YtohajofkflibjaaGreatDoor
open Go.RowKit Go.Maps
set_option linter.unusedVariables false
set_option linter.unusedSimpArgs false

theorem one_sl {w : World} {g : Nat} {z : Int} (hg : w.heap.size = g) : SlB (w.alloc (.cells #[.int .u8 z] 5 (1, 2))) ⟨some ⟨g, 0, none⟩, 1, 1⟩ [z] := by
  refine ⟨⟨⟨rfl, (by show (1 : Nat) ≤ 9223372036854775807; decide), fun _ => ⟨g, 0, rfl, fun j hj => ?_⟩⟩, fun e => (by cases e)⟩, Nat.le_refl _, (by show (1 : Nat) ≤ maxLen; decide), (by show (1 : Nat) ≤ 140737488355328; decide)⟩
  obtain rfl : j = 0 := by have : j < 1 := hj; omega
  subst hg
  exact cell_of_row _ _ 0 _ _ _ (heap_alloc_new w _)
/-- The eight records. -/
def someR (i : Nat) : Rec := match i with
  | 0 => ⟨0, 1, 0, 0, 1, 5, [107], [], [118], [], []⟩
  | 1 => ⟨0, 9223372036854775807, 9223372036854775807, 9223372036854775807, 2, 8191, List.replicate 40 0, List.replicate 180 0, List.replicate 180 0, [], []⟩
  | 2 => ⟨0, 3, 258, 0, 3, 0, [], [], [], [], []⟩
  | 3 => ⟨0, 1, 0, 0, 4, 0, [], [], [], [], []⟩
  | 4 => ⟨0, 0, 0, 0, 5, 0, [], [], [], [], []⟩
  | 5 => ⟨0, 0, 0, 0, 5, 0, [], [], [], [(0, 1), (8191, 9223372036854775807)], [(1, 1), (2, 7)]⟩
  | 6 => ⟨0, 1, 0, 1, 6, 0, [], [], [], [], []⟩
  | _ => ⟨0, 1, 0, 8191, 6, 8191, [], [], [], [], []⟩
def someS (k v gk go gn gd gp : Nat) (i : Nat) : RecS := match i with
  | 0 => ⟨⟨(some ⟨k, 0, none⟩), 1, 1⟩, ⟨none, 0, 0⟩, ⟨(some ⟨v, 0, none⟩), 1, 1⟩, ⟨none, 0, 0⟩, ⟨none, 0, 0⟩⟩
  | 1 => ⟨⟨(some ⟨gk, 0, none⟩), 40, 40⟩, ⟨(some ⟨go, 0, none⟩), 180, 180⟩, ⟨(some ⟨gn, 0, none⟩), 180, 180⟩, ⟨none, 0, 0⟩, ⟨none, 0, 0⟩⟩
  | 2 => ⟨⟨none, 0, 0⟩, ⟨none, 0, 0⟩, ⟨none, 0, 0⟩, ⟨none, 0, 0⟩, ⟨none, 0, 0⟩⟩
  | 3 => ⟨⟨none, 0, 0⟩, ⟨none, 0, 0⟩, ⟨none, 0, 0⟩, ⟨none, 0, 0⟩, ⟨none, 0, 0⟩⟩
  | 4 => ⟨⟨none, 0, 0⟩, ⟨none, 0, 0⟩, ⟨none, 0, 0⟩, ⟨none, 0, 0⟩, ⟨none, 0, 0⟩⟩
  | 5 => ⟨⟨none, 0, 0⟩, ⟨none, 0, 0⟩, ⟨none, 0, 0⟩, ⟨(some ⟨gd, 0, none⟩), 2, 2⟩, ⟨(some ⟨gp, 0, none⟩), 2, 2⟩⟩
  | 6 => ⟨⟨none, 0, 0⟩, ⟨none, 0, 0⟩, ⟨none, 0, 0⟩, ⟨none, 0, 0⟩, ⟨none, 0, 0⟩⟩
  | _ => ⟨⟨none, 0, 0⟩, ⟨none, 0, 0⟩, ⟨none, 0, 0⟩, ⟨none, 0, 0⟩, ⟨none, 0, 0⟩⟩
def someC (k v gk go gn gd gp : Nat) : Array Value := #[.int .i64 0, .int .i64 1, .int .i64 0, .int .i64 0, .int .u8 1, .int .i64 5, .slice (some ⟨k, 0, none⟩) 1 1, .slice none 0 0, .slice (some ⟨v, 0, none⟩) 1 1, .slice none 0 0, .slice none 0 0, .int .i64 0, .int .i64 9223372036854775807, .int .i64 9223372036854775807, .int .i64 9223372036854775807, .int .u8 2, .int .i64 8191, .slice (some ⟨gk, 0, none⟩) 40 40, .slice (some ⟨go, 0, none⟩) 180 180, .slice (some ⟨gn, 0, none⟩) 180 180, .slice none 0 0, .slice none 0 0, .int .i64 0, .int .i64 3, .int .i64 258, .int .i64 0, .int .u8 3, .int .i64 0, .slice none 0 0, .slice none 0 0, .slice none 0 0, .slice none 0 0, .slice none 0 0, .int .i64 0, .int .i64 1, .int .i64 0, .int .i64 0, .int .u8 4, .int .i64 0, .slice none 0 0, .slice none 0 0, .slice none 0 0, .slice none 0 0, .slice none 0 0, .int .i64 0, .int .i64 0, .int .i64 0, .int .i64 0, .int .u8 5, .int .i64 0, .slice none 0 0, .slice none 0 0, .slice none 0 0, .slice none 0 0, .slice none 0 0, .int .i64 0, .int .i64 0, .int .i64 0, .int .i64 0, .int .u8 5, .int .i64 0, .slice none 0 0, .slice none 0 0, .slice none 0 0, .slice (some ⟨gd, 0, none⟩) 2 2, .slice (some ⟨gp, 0, none⟩) 2 2, .int .i64 0, .int .i64 1, .int .i64 0, .int .i64 1, .int .u8 6, .int .i64 0, .slice none 0 0, .slice none 0 0, .slice none 0 0, .slice none 0 0, .slice none 0 0, .int .i64 0, .int .i64 1, .int .i64 0, .int .i64 8191, .int .u8 6, .int .i64 8191, .slice none 0 0, .slice none 0 0, .slice none 0 0, .slice none 0 0, .slice none 0 0]
set_option maxRecDepth 100000 in
theorem someR_right (i : Nat) : rightR (someR i) = true := by
  unfold someR
  split <;> decide +kernel
set_option maxRecDepth 100000 in
theorem someR_ok (i : Nat) : (someR i).Ok := by
  have hrep := reps_byte
  unfold someR
  split <;> exact ⟨⟨by decide, by decide⟩, ⟨by decide, by decide⟩, ⟨by decide, by decide⟩, ⟨by decide, by decide⟩, ⟨by decide, by decide⟩, ⟨by decide, by decide⟩, by first | exact hrep _ | (unfold isByte; decide), by first | exact hrep _ | (unfold isByte; decide), by first | exact hrep _ | (unfold isByte; decide), by unfold I64; decide, by unfold I64; decide⟩
/-- A record in memory, without room behind its bytes. -/
structure RecB (w : World) (R : Rec) (S : RecS) : Prop where
  is : RecIs w R S
  oc : S.O.c < S.O.n + 201
  on : S.O.n ≤ 100000
  nc : S.N.c < S.N.n + 201
  nn : S.N.n ≤ 100000
theorem RecB.fresh {w w' : World} {R : Rec} {S : RecS} (h : RecB w R S) (ht : Turned (fun _ => False) w w') : RecB w' R S := { h with is := h.is.fresh ht }
/-- The cells of record i of the list in block g. -/
def CelsR (w : World) (g i : Nat) (R : Rec) (S : RecS) : Prop := ∀ j, j < 11 → w.cell? ⟨g, i * 11 + j, none⟩ = (recC R S).toList[j]?
theorem CelsR.fresh {w w' : World} {g i : Nat} {R : Rec} {S : RecS} (h : CelsR w g i R S) (ht : Turned (fun _ => False) w w') : CelsR w' g i R S := fun j hj => by
  have hs : ∃ u, (recC R S).toList[j]? = some u := ⟨_, List.getElem?_eq_getElem (by simp [recC]; omega)⟩
  obtain ⟨u, hu⟩ := hs
  rw [hu]
  exact cell_turned ht ((h j hj).trans hu) (fun e => e)
def SomeP (w : World) (e : Ending) (w' : World) : Prop := ∃ g, ∃ S : Nat → RecS, e = .returned (.slice (some ⟨g, 0, none⟩) 8 8) ∧ (∀ i, i < 8 → CelsR w' g i (someR i) (S i)) ∧ (∀ i, i < 8 → RecB w' (someR i) (S i)) ∧ Turned (fun _ => False) w w'
theorem some_cells {w : World} {g k v gk go gn gd gp : Nat} (h : Blk w g 29 (someC k v gk go gn gd gp)) (i : Nat) (hi : i < 8) : CelsR w g i (someR i) (someS k v gk go gn gd gp i) := by
  intro j hj
  rw [h.cell]
  rcases (show i = 0 ∨ i = 1 ∨ i = 2 ∨ i = 3 ∨ i = 4 ∨ i = 5 ∨ i = 6 ∨ i = 7 by omega) with rfl | rfl | rfl | rfl | rfl | rfl | rfl | rfl <;>
  rcases (show j = 0 ∨ j = 1 ∨ j = 2 ∨ j = 3 ∨ j = 4 ∨ j = 5 ∨ j = 6 ∨ j = 7 ∨ j = 8 ∨ j = 9 ∨ j = 10 by omega) with rfl | rfl | rfl | rfl | rfl | rfl | rfl | rfl | rfl | rfl | rfl <;> rfl
theorem some_end {w w' : World} {g k v gk go gn gd gp : Nat} (h : Blk w' g 29 (someC k v gk go gn gd gp)) (hk : SlB w' ⟨some ⟨k, 0, none⟩, 1, 1⟩ [107]) (hv : SlB w' ⟨some ⟨v, 0, none⟩, 1, 1⟩ [118])
    (rk : RowB w' 5 gk 40 40 (List.replicate 40 0)) (ro : RowB w' 5 go 180 180 (List.replicate 180 0)) (rn : RowB w' 5 gn 180 180 (List.replicate 180 0)) (rd : RowE w' 52 2 gd 2 2 (pairC [(0, 1), (8191, 9223372036854775807)])) (rp : RowE w' 54 2 gp 2 2 (pairC [(1, 1), (2, 7)])) (ht : Turned (fun _ => False) w w') :
    SomeP w (.returned (.slice (some ⟨g, 0, none⟩) 8 8)) w' := by
  refine ⟨g, someS k v gk go gn gd gp, rfl, some_cells h, fun i hi => ?_, ht⟩
  have n0 := SlB.none0 w'
  have p0 : SlP w' ⟨none, 0, 0⟩ [] := ⟨CelR.none_ w', rfl, fun _ => ⟨rfl, rfl⟩, Nat.le_refl 0, Nat.zero_le _, Nat.zero_le _⟩
  rcases (show i = 0 ∨ i = 1 ∨ i = 2 ∨ i = 3 ∨ i = 4 ∨ i = 5 ∨ i = 6 ∨ i = 7 by omega) with rfl | rfl | rfl | rfl | rfl | rfl | rfl | rfl
  · exact ⟨⟨hk, n0, hv, p0, p0⟩, by simp [someS], by simp [someS], by simp [someS], by simp [someS]⟩
  · exact ⟨⟨rk.slB0 (by decide), ro.slB0 (by decide), rn.slB0 (by decide), p0, p0⟩, by simp [someS], by simp [someS], by simp [someS], by simp [someS]⟩
  · exact ⟨⟨n0, n0, n0, p0, p0⟩, by simp [someS], by simp [someS], by simp [someS], by simp [someS]⟩
  · exact ⟨⟨n0, n0, n0, p0, p0⟩, by simp [someS], by simp [someS], by simp [someS], by simp [someS]⟩
  · exact ⟨⟨n0, n0, n0, p0, p0⟩, by simp [someS], by simp [someS], by simp [someS], by simp [someS]⟩
  · exact ⟨⟨n0, n0, n0, rd.slP0 (by decide), rp.slP0 (by decide)⟩, by simp [someS], by simp [someS], by simp [someS], by simp [someS]⟩
  · exact ⟨⟨n0, n0, n0, p0, p0⟩, by simp [someS], by simp [someS], by simp [someS], by simp [someS]⟩
  · exact ⟨⟨n0, n0, n0, p0, p0⟩, by simp [someS], by simp [someS], by simp [someS], by simp [someS]⟩
set_option maxRecDepth 100000 in
set_option maxHeartbeats 4000000 in
theorem some_any (w : World) : Calls Tryz.prog 24 #[] w (SomeP w) := by
  have m40 := run40
  have m180 := run180
  have kc := fun (w : World) (C : Array Value) (n c : Nat) => Lib.run_convert_bytes_const (P := Tryz.prog) w 23 5 C n c Tryz.underlying23 Tryz.underlying5
  have kc1 := kc w #[.int .u8 107] 1 1
  have kc2 := kc (w.alloc (.cells #[.int .u8 107] 5 (1, 2))) #[.int .u8 118] 1 1
  have e2 : (w.alloc (.cells #[.int .u8 107] 5 (1, 2))).heap.size = w.heap.size + 1 := by simp
  rw [e2] at kc2
  clear kc e2
  go_enter Tryz.func24, Tryz.ntmps24
  go_upto_region 2 with fail
  go_cut [1, 2] from 3 (fun u1 u2 wc => ∃ b gk go gn, u1 = .pointer (some ⟨w.heap.size + 1 + 1, 0, none⟩) ∧ u2 = .pointer (some ⟨b, 0, none⟩) ∧ Blk wc b 25 #[.slice (some ⟨gk, 0, none⟩) 40 40, .slice (some ⟨go, 0, none⟩) 180 180, .slice (some ⟨gn, 0, none⟩) 180 180] ∧ RowB wc 5 gk 40 40 (List.replicate 40 0) ∧ RowB wc 5 go 180 180 (List.replicate 180 0) ∧ RowB wc 5 gn 180 180 (List.replicate 180 0) ∧ Turned (fun _ => False) (((w.alloc (.cells #[.int .u8 107] 5 (1, 2))).alloc (.cells #[.int .u8 118] 5 (1, 2))).alloc (.cells #[.slice (some ⟨w.heap.size, 0, none⟩) 1 1, .slice none 0 0, .slice (some ⟨w.heap.size + 1, 0, none⟩) 1 1] 25)) wc)
  case first =>
    go_region
    all_goals go_wp2_with fail
    all_goals go_meet
    all_goals (apply Exists.intro; apply Exists.intro; apply Exists.intro; apply Exists.intro; refine ⟨rfl, rfl, ?_, ?_, ?_, ?_, ?_⟩; (focus (first | (refine Blk.drew (Blk.new_at _ _ _ ?_); simp; done) | (refine Blk.drew ((Blk.new_at _ _ _ ?_).alloc _); simp; done) | (refine Blk.drew (((Blk.new_at _ _ _ ?_).alloc _).alloc _); simp; done) | (refine Blk.drew ((((Blk.new_at _ _ _ ?_).alloc _).alloc _).alloc _); simp; done))); (focus (first | (refine (made_row ?_ (by decide)).turned (Turned.refl (fun _ => False) _).drew (fun e => e); simp; done) | (refine (made_row ?_ (by decide)).turned ((Turned.refl (fun _ => False) _).alloc _).drew (fun e => e); simp; done) | (refine (made_row ?_ (by decide)).turned (((Turned.refl (fun _ => False) _).alloc _).alloc _).drew (fun e => e); simp; done) | (refine (made_row ?_ (by decide)).turned ((((Turned.refl (fun _ => False) _).alloc _).alloc _).alloc _).drew (fun e => e); simp; done))); (focus (first | (refine (made_row ?_ (by decide)).turned (Turned.refl (fun _ => False) _).drew (fun e => e); simp; done) | (refine (made_row ?_ (by decide)).turned ((Turned.refl (fun _ => False) _).alloc _).drew (fun e => e); simp; done) | (refine (made_row ?_ (by decide)).turned (((Turned.refl (fun _ => False) _).alloc _).alloc _).drew (fun e => e); simp; done) | (refine (made_row ?_ (by decide)).turned ((((Turned.refl (fun _ => False) _).alloc _).alloc _).alloc _).drew (fun e => e); simp; done))); (focus (first | (refine (made_row ?_ (by decide)).turned (Turned.refl (fun _ => False) _).drew (fun e => e); simp; done) | (refine (made_row ?_ (by decide)).turned ((Turned.refl (fun _ => False) _).alloc _).drew (fun e => e); simp; done) | (refine (made_row ?_ (by decide)).turned (((Turned.refl (fun _ => False) _).alloc _).alloc _).drew (fun e => e); simp; done) | (refine (made_row ?_ (by decide)).turned ((((Turned.refl (fun _ => False) _).alloc _).alloc _).alloc _).drew (fun e => e); simp; done))); (focus (exact (((((Turned.refl (fun _ => False) _).alloc _).alloc _).alloc _).alloc _).drew)))
  case rest =>
    obtain ⟨b, gk, go, gn, rfl, rfl, hB, rk, ro, rn, tc⟩ := hcut
    clear kc1 kc2 m40 m180
    have hT := (Blk.new_at (k := w.heap.size + 1 + 1) ((w.alloc (.cells #[.int .u8 107] 5 (1, 2))).alloc (.cells #[.int .u8 118] 5 (1, 2))) 25 #[.slice (some ⟨w.heap.size, 0, none⟩) 1 1, .slice none 0 0, .slice (some ⟨w.heap.size + 1, 0, none⟩) 1 1] (by simp)).turned tc (fun e => e)
    have hk := Lib.hid (((one_sl (w := w) (g := w.heap.size) (z := 107) rfl).fresh (((Turned.refl (fun _ => False) _).alloc _).alloc _)).fresh tc)
    have hv := Lib.hid (((one_sl (w := w.alloc (.cells #[.int .u8 107] 5 (1, 2))) (g := w.heap.size + 1) (z := 118) (by simp)).fresh ((Turned.refl (fun _ => False) _).alloc _)).fresh tc)
    have T0 := Lib.hid (((((Turned.refl (fun _ => False) w).alloc _).alloc _).alloc _).and_ tc)
    have hkr := Lib.hid rk
    have hor := Lib.hid ro
    have hnr := Lib.hid rn
    have hc0 := hT.cell 0
    have hc1 := hT.cell 1
    have hc2 := hT.cell 2
    have hd0 := hB.cell 0
    have hd1 := hB.cell 1
    have hd2 := hB.cell 2
    simp only [List.getElem?_toArray, List.getElem?_cons_zero, List.getElem?_cons_succ] at hc0 hc1 hc2 hd0 hd1 hd2
    clear rk ro rn tc hT hB
    have HC := Lib.hid (And.intro hc0 (And.intro hc1 (And.intro hc2 (And.intro hd0 (And.intro hd1 hd2)))))
    clear hc0 hc1 hc2 hd0 hd1 hd2
    generalize w.heap.size + 1 + 1 = bt at *
    go_wp2_with fail
    have S0 : Turned (fun _ => False) wc wc.drew := (Turned.refl (fun _ => False) wc).drew
    refine wp_region_ts (fun w' => Turned (fun _ => False) wc w') (tsT [0, 1, 2, 3, 5, 6, 7, 8, 10, 11, 14, 15] (.three 4 9 12 (.two 9 12 (.run 12 (.take 13 (.run 16 (.take 17 .nil)))) (.run 9 (.take 13 (.run 16 (.take 17 .nil))))) (.two 4 12 (.run 12 (.take 13 (.run 16 (.take 17 .nil)))) (.take 13 (.run 4 (.run 16 (.take 17 .nil))))) (.two 4 9 (.run 9 (.take 13 (.run 16 (.take 17 .nil)))) (.take 13 (.run 4 (.run 16 (.take 17 .nil))))))) mixed (by kernel_rfl) (fun _ _ _ _ _ h => h) ?_
    generalize wc.drew = wd at *
    simp only [tsT, List.foldr_cons, List.foldr_nil, Ts.map, List.getElem?_cons_zero, List.getElem?_cons_succ]
    (refine ts_take (v := .agg #[.slice (some ⟨w.heap.size, 0, none⟩) 1 1, .slice none 0 0, .slice (some ⟨w.heap.size + 1, 0, none⟩) 1 1]) S0 rfl (fun w' hw => ?_) ?_; (focus (obtain ⟨p0, p1, p2, p3, p4, p5⟩ := HC.out; have y0 := cell_turned hw p0 (fun e => e); have y1 := cell_turned hw p1 (fun e => e); have y2 := cell_turned hw p2 (fun e => e); have y3 := cell_turned hw p3 (fun e => e); have y4 := cell_turned hw p4 (fun e => e); have y5 := cell_turned hw p5 (fun e => e); clear p0 p1 p2 p3 p4 p5; go_simp; (try with_reducible rfl); done)); try simp only [Act.put, List.setIfInBounds_toArray, List.set_cons_zero, List.set_cons_succ])
    (refine ts_take (v := ?_) S0 rfl (fun w' hw => ?_) ?_; rotate_left; (focus (go_simp; (try with_reducible rfl); done)); try simp only [Act.put, List.setIfInBounds_toArray, List.set_cons_zero, List.set_cons_succ])
    (refine ts_take (v := .agg #[.slice (some ⟨gk, 0, none⟩) 40 40, .slice (some ⟨go, 0, none⟩) 180 180, .slice (some ⟨gn, 0, none⟩) 180 180]) S0 rfl (fun w' hw => ?_) ?_; (focus (obtain ⟨p0, p1, p2, p3, p4, p5⟩ := HC.out; have y0 := cell_turned hw p0 (fun e => e); have y1 := cell_turned hw p1 (fun e => e); have y2 := cell_turned hw p2 (fun e => e); have y3 := cell_turned hw p3 (fun e => e); have y4 := cell_turned hw p4 (fun e => e); have y5 := cell_turned hw p5 (fun e => e); clear p0 p1 p2 p3 p4 p5; go_simp; (try with_reducible rfl); done)); try simp only [Act.put, List.setIfInBounds_toArray, List.set_cons_zero, List.set_cons_succ])
    iterate 9 (refine ts_take (v := ?_) S0 rfl (fun w' hw => ?_) ?_; rotate_left; (focus (go_simp; (try with_reducible rfl); done)); try simp only [Act.put, List.setIfInBounds_toArray, List.set_cons_zero, List.set_cons_succ])
    refine ts_three ?_ ?_ ?_
    · skip
      refine now_run rfl (fun K hK => ?_)
      go_simp
      have hcm := commit_any wd
      unfold recC comR RecS.nil Sl.nil at hcm
      simp only at hcm
      refine hcm.mono ?_
      clear hcm
      rintro e y1 ⟨rfl, t⟩
      have S1 := S0.and_ t
      refine hK.out _ _ S1 ?_
      clear hK K t
      refine ts_two ?_ ?_
      · skip
        refine now_run rfl (fun K hK => ?_)
        go_simp
        have t := (Turned.refl (fun _ => False) y1).alloc (.cells #[.int .i64 0, .int .i64 1, .int .i64 8191, .int .i64 9223372036854775807] 52)
        have S2 := S1.alloc (.cells #[.int .i64 0, .int .i64 1, .int .i64 8191, .int .i64 9223372036854775807] 52)
        refine hK.out _ _ S2 ?_
        clear hK K
        have rd : Hid (RowE (y1.alloc (.cells #[.int .i64 0, .int .i64 1, .int .i64 8191, .int .i64 9223372036854775807] 52)) 52 2 y1.heap.size 2 2 (pairC [(0, 1), (8191, 9223372036854775807)])) := Lib.hid (RowE.new y1 52 2 2 #[.int .i64 0, .int .i64 1, .int .i64 8191, .int .i64 9223372036854775807] rfl (by decide))
        clear t
        generalize y1.alloc (.cells #[.int .i64 0, .int .i64 1, .int .i64 8191, .int .i64 9223372036854775807] 52) = y2 at *
        refine ts_run rfl (fun K hK => ?_)
        go_simp
        have t := (Turned.refl (fun _ => False) y2).alloc (.cells #[.int .i64 1, .int .i64 1, .int .i64 2, .int .i64 7] 54)
        have S3 := S2.alloc (.cells #[.int .i64 1, .int .i64 1, .int .i64 2, .int .i64 7] 54)
        refine hK.out _ _ S3 ?_
        clear hK K
        have rd := Lib.hid (rd.out.fresh t)
        have rp : Hid (RowE (y2.alloc (.cells #[.int .i64 1, .int .i64 1, .int .i64 2, .int .i64 7] 54)) 54 2 y2.heap.size 2 2 (pairC [(1, 1), (2, 7)])) := Lib.hid (RowE.new y2 54 2 2 #[.int .i64 1, .int .i64 1, .int .i64 2, .int .i64 7] rfl (by decide))
        clear t
        generalize y2.alloc (.cells #[.int .i64 1, .int .i64 1, .int .i64 2, .int .i64 7] 54) = y3 at *
        (refine ts_take (v := ?_) S3 rfl (fun w' hw => ?_) ?_; rotate_left; (focus (go_simp; (try with_reducible rfl); done)); try simp only [Act.put, List.setIfInBounds_toArray, List.set_cons_zero, List.set_cons_succ])
        refine ts_run rfl (fun K hK => ?_)
        go_simp
        obtain ⟨cz, hcz⟩ : ∃ cz : Array Value, cz = #[.int .i64 0, .int .i64 1, .int .i64 0, .int .i64 0, .int .u8 1, .int .i64 5, .slice (some ⟨w.heap.size, 0, none⟩) 1 1, .slice none 0 0, .slice (some ⟨w.heap.size + 1, 0, none⟩) 1 1, .slice none 0 0, .slice none 0 0, .int .i64 0, .int .i64 9223372036854775807, .int .i64 9223372036854775807, .int .i64 9223372036854775807, .int .u8 2, .int .i64 8191, .slice (some ⟨gk, 0, none⟩) 40 40, .slice (some ⟨go, 0, none⟩) 180 180, .slice (some ⟨gn, 0, none⟩) 180 180, .slice none 0 0, .slice none 0 0, .int .i64 0, .int .i64 3, .int .i64 258, .int .i64 0, .int .u8 3, .int .i64 0, .slice none 0 0, .slice none 0 0, .slice none 0 0, .slice none 0 0, .slice none 0 0, .int .i64 0, .int .i64 1, .int .i64 0, .int .i64 0, .int .u8 4, .int .i64 0, .slice none 0 0, .slice none 0 0, .slice none 0 0, .slice none 0 0, .slice none 0 0, .int .i64 0, .int .i64 0, .int .i64 0, .int .i64 0, .int .u8 5, .int .i64 0, .slice none 0 0, .slice none 0 0, .slice none 0 0, .slice none 0 0, .slice none 0 0, .int .i64 0, .int .i64 0, .int .i64 0, .int .i64 0, .int .u8 5, .int .i64 0, .slice none 0 0, .slice none 0 0, .slice none 0 0, .slice (some ⟨y1.heap.size, 0, none⟩) 2 2, .slice (some ⟨y2.heap.size, 0, none⟩) 2 2, .int .i64 0, .int .i64 1, .int .i64 0, .int .i64 1, .int .u8 6, .int .i64 0, .slice none 0 0, .slice none 0 0, .slice none 0 0, .slice none 0 0, .slice none 0 0, .int .i64 0, .int .i64 1, .int .i64 0, .int .i64 8191, .int .u8 6, .int .i64 8191, .slice none 0 0, .slice none 0 0, .slice none 0 0, .slice none 0 0, .slice none 0 0] := ⟨_, rfl⟩
        rw [← hcz]
        have SF := S3.alloc (.cells cz 29)
        have hBk := Lib.hid (show Blk (y3.alloc (.cells cz 29)) y3.heap.size 29 (someC w.heap.size (w.heap.size + 1) gk go gn y1.heap.size y2.heap.size) by rw [hcz]; exact Blk.new y3 29 _)
        have tz := (Turned.refl (fun _ => False) y3).alloc (.cells cz 29)
        have fd := Lib.hid (rd.out.fresh tz)
        have fp := Lib.hid (rp.out.fresh tz)
        clear tz hcz
        refine hK.out _ _ SF ?_
        clear hK K
        (refine ts_take (v := ?_) SF rfl (fun w' hw => ?_) ?_; rotate_left; (focus (go_simp; (try with_reducible rfl); done)); try simp only [Act.put, List.setIfInBounds_toArray, List.set_cons_zero, List.set_cons_succ])
        refine ts_nil ?_
        have SF := Lib.hid SF
        clear S0 S1 S2 S3
        go_wp2_with fail
        go_ret
        exact some_end hBk.out (hk.out.fresh SF.out) (hv.out.fresh SF.out) (hkr.out.turned SF.out (fun e => e)) (hor.out.turned SF.out (fun e => e)) (hnr.out.turned SF.out (fun e => e)) fd.out fp.out (T0.out.and_ SF.out)
      · skip
        refine now_run rfl (fun K hK => ?_)
        go_simp
        have t := (Turned.refl (fun _ => False) y1).alloc (.cells #[.int .i64 1, .int .i64 1, .int .i64 2, .int .i64 7] 54)
        have S2 := S1.alloc (.cells #[.int .i64 1, .int .i64 1, .int .i64 2, .int .i64 7] 54)
        refine hK.out _ _ S2 ?_
        clear hK K
        have rp : Hid (RowE (y1.alloc (.cells #[.int .i64 1, .int .i64 1, .int .i64 2, .int .i64 7] 54)) 54 2 y1.heap.size 2 2 (pairC [(1, 1), (2, 7)])) := Lib.hid (RowE.new y1 54 2 2 #[.int .i64 1, .int .i64 1, .int .i64 2, .int .i64 7] rfl (by decide))
        clear t
        generalize y1.alloc (.cells #[.int .i64 1, .int .i64 1, .int .i64 2, .int .i64 7] 54) = y2 at *
        refine ts_run rfl (fun K hK => ?_)
        go_simp
        have t := (Turned.refl (fun _ => False) y2).alloc (.cells #[.int .i64 0, .int .i64 1, .int .i64 8191, .int .i64 9223372036854775807] 52)
        have S3 := S2.alloc (.cells #[.int .i64 0, .int .i64 1, .int .i64 8191, .int .i64 9223372036854775807] 52)
        refine hK.out _ _ S3 ?_
        clear hK K
        have rp := Lib.hid (rp.out.fresh t)
        have rd : Hid (RowE (y2.alloc (.cells #[.int .i64 0, .int .i64 1, .int .i64 8191, .int .i64 9223372036854775807] 52)) 52 2 y2.heap.size 2 2 (pairC [(0, 1), (8191, 9223372036854775807)])) := Lib.hid (RowE.new y2 52 2 2 #[.int .i64 0, .int .i64 1, .int .i64 8191, .int .i64 9223372036854775807] rfl (by decide))
        clear t
        generalize y2.alloc (.cells #[.int .i64 0, .int .i64 1, .int .i64 8191, .int .i64 9223372036854775807] 52) = y3 at *
        (refine ts_take (v := ?_) S3 rfl (fun w' hw => ?_) ?_; rotate_left; (focus (go_simp; (try with_reducible rfl); done)); try simp only [Act.put, List.setIfInBounds_toArray, List.set_cons_zero, List.set_cons_succ])
        refine ts_run rfl (fun K hK => ?_)
        go_simp
        obtain ⟨cz, hcz⟩ : ∃ cz : Array Value, cz = #[.int .i64 0, .int .i64 1, .int .i64 0, .int .i64 0, .int .u8 1, .int .i64 5, .slice (some ⟨w.heap.size, 0, none⟩) 1 1, .slice none 0 0, .slice (some ⟨w.heap.size + 1, 0, none⟩) 1 1, .slice none 0 0, .slice none 0 0, .int .i64 0, .int .i64 9223372036854775807, .int .i64 9223372036854775807, .int .i64 9223372036854775807, .int .u8 2, .int .i64 8191, .slice (some ⟨gk, 0, none⟩) 40 40, .slice (some ⟨go, 0, none⟩) 180 180, .slice (some ⟨gn, 0, none⟩) 180 180, .slice none 0 0, .slice none 0 0, .int .i64 0, .int .i64 3, .int .i64 258, .int .i64 0, .int .u8 3, .int .i64 0, .slice none 0 0, .slice none 0 0, .slice none 0 0, .slice none 0 0, .slice none 0 0, .int .i64 0, .int .i64 1, .int .i64 0, .int .i64 0, .int .u8 4, .int .i64 0, .slice none 0 0, .slice none 0 0, .slice none 0 0, .slice none 0 0, .slice none 0 0, .int .i64 0, .int .i64 0, .int .i64 0, .int .i64 0, .int .u8 5, .int .i64 0, .slice none 0 0, .slice none 0 0, .slice none 0 0, .slice none 0 0, .slice none 0 0, .int .i64 0, .int .i64 0, .int .i64 0, .int .i64 0, .int .u8 5, .int .i64 0, .slice none 0 0, .slice none 0 0, .slice none 0 0, .slice (some ⟨y2.heap.size, 0, none⟩) 2 2, .slice (some ⟨y1.heap.size, 0, none⟩) 2 2, .int .i64 0, .int .i64 1, .int .i64 0, .int .i64 1, .int .u8 6, .int .i64 0, .slice none 0 0, .slice none 0 0, .slice none 0 0, .slice none 0 0, .slice none 0 0, .int .i64 0, .int .i64 1, .int .i64 0, .int .i64 8191, .int .u8 6, .int .i64 8191, .slice none 0 0, .slice none 0 0, .slice none 0 0, .slice none 0 0, .slice none 0 0] := ⟨_, rfl⟩
        rw [← hcz]
        have SF := S3.alloc (.cells cz 29)
        have hBk := Lib.hid (show Blk (y3.alloc (.cells cz 29)) y3.heap.size 29 (someC w.heap.size (w.heap.size + 1) gk go gn y2.heap.size y1.heap.size) by rw [hcz]; exact Blk.new y3 29 _)
        have tz := (Turned.refl (fun _ => False) y3).alloc (.cells cz 29)
        have fd := Lib.hid (rd.out.fresh tz)
        have fp := Lib.hid (rp.out.fresh tz)
        clear tz hcz
        refine hK.out _ _ SF ?_
        clear hK K
        (refine ts_take (v := ?_) SF rfl (fun w' hw => ?_) ?_; rotate_left; (focus (go_simp; (try with_reducible rfl); done)); try simp only [Act.put, List.setIfInBounds_toArray, List.set_cons_zero, List.set_cons_succ])
        refine ts_nil ?_
        have SF := Lib.hid SF
        clear S0 S1 S2 S3
        go_wp2_with fail
        go_ret
        exact some_end hBk.out (hk.out.fresh SF.out) (hv.out.fresh SF.out) (hkr.out.turned SF.out (fun e => e)) (hor.out.turned SF.out (fun e => e)) (hnr.out.turned SF.out (fun e => e)) fd.out fp.out (T0.out.and_ SF.out)
    · skip
      refine now_run rfl (fun K hK => ?_)
      go_simp
      have t := (Turned.refl (fun _ => False) wd).alloc (.cells #[.int .i64 0, .int .i64 1, .int .i64 8191, .int .i64 9223372036854775807] 52)
      have S1 := S0.alloc (.cells #[.int .i64 0, .int .i64 1, .int .i64 8191, .int .i64 9223372036854775807] 52)
      refine hK.out _ _ S1 ?_
      clear hK K
      have rd : Hid (RowE (wd.alloc (.cells #[.int .i64 0, .int .i64 1, .int .i64 8191, .int .i64 9223372036854775807] 52)) 52 2 wd.heap.size 2 2 (pairC [(0, 1), (8191, 9223372036854775807)])) := Lib.hid (RowE.new wd 52 2 2 #[.int .i64 0, .int .i64 1, .int .i64 8191, .int .i64 9223372036854775807] rfl (by decide))
      clear t
      generalize wd.alloc (.cells #[.int .i64 0, .int .i64 1, .int .i64 8191, .int .i64 9223372036854775807] 52) = y1 at *
      refine ts_two ?_ ?_
      · skip
        refine now_run rfl (fun K hK => ?_)
        go_simp
        have hcm := commit_any y1
        unfold recC comR RecS.nil Sl.nil at hcm
        simp only at hcm
        refine hcm.mono ?_
        clear hcm
        rintro e y2 ⟨rfl, t⟩
        have S2 := S1.and_ t
        have rd := Lib.hid (rd.out.fresh t)
        refine hK.out _ _ S2 ?_
        clear hK K t
        refine ts_run rfl (fun K hK => ?_)
        go_simp
        have t := (Turned.refl (fun _ => False) y2).alloc (.cells #[.int .i64 1, .int .i64 1, .int .i64 2, .int .i64 7] 54)
        have S3 := S2.alloc (.cells #[.int .i64 1, .int .i64 1, .int .i64 2, .int .i64 7] 54)
        refine hK.out _ _ S3 ?_
        clear hK K
        have rd := Lib.hid (rd.out.fresh t)
        have rp : Hid (RowE (y2.alloc (.cells #[.int .i64 1, .int .i64 1, .int .i64 2, .int .i64 7] 54)) 54 2 y2.heap.size 2 2 (pairC [(1, 1), (2, 7)])) := Lib.hid (RowE.new y2 54 2 2 #[.int .i64 1, .int .i64 1, .int .i64 2, .int .i64 7] rfl (by decide))
        clear t
        generalize y2.alloc (.cells #[.int .i64 1, .int .i64 1, .int .i64 2, .int .i64 7] 54) = y3 at *
        (refine ts_take (v := ?_) S3 rfl (fun w' hw => ?_) ?_; rotate_left; (focus (go_simp; (try with_reducible rfl); done)); try simp only [Act.put, List.setIfInBounds_toArray, List.set_cons_zero, List.set_cons_succ])
        refine ts_run rfl (fun K hK => ?_)
        go_simp
        obtain ⟨cz, hcz⟩ : ∃ cz : Array Value, cz = #[.int .i64 0, .int .i64 1, .int .i64 0, .int .i64 0, .int .u8 1, .int .i64 5, .slice (some ⟨w.heap.size, 0, none⟩) 1 1, .slice none 0 0, .slice (some ⟨w.heap.size + 1, 0, none⟩) 1 1, .slice none 0 0, .slice none 0 0, .int .i64 0, .int .i64 9223372036854775807, .int .i64 9223372036854775807, .int .i64 9223372036854775807, .int .u8 2, .int .i64 8191, .slice (some ⟨gk, 0, none⟩) 40 40, .slice (some ⟨go, 0, none⟩) 180 180, .slice (some ⟨gn, 0, none⟩) 180 180, .slice none 0 0, .slice none 0 0, .int .i64 0, .int .i64 3, .int .i64 258, .int .i64 0, .int .u8 3, .int .i64 0, .slice none 0 0, .slice none 0 0, .slice none 0 0, .slice none 0 0, .slice none 0 0, .int .i64 0, .int .i64 1, .int .i64 0, .int .i64 0, .int .u8 4, .int .i64 0, .slice none 0 0, .slice none 0 0, .slice none 0 0, .slice none 0 0, .slice none 0 0, .int .i64 0, .int .i64 0, .int .i64 0, .int .i64 0, .int .u8 5, .int .i64 0, .slice none 0 0, .slice none 0 0, .slice none 0 0, .slice none 0 0, .slice none 0 0, .int .i64 0, .int .i64 0, .int .i64 0, .int .i64 0, .int .u8 5, .int .i64 0, .slice none 0 0, .slice none 0 0, .slice none 0 0, .slice (some ⟨wd.heap.size, 0, none⟩) 2 2, .slice (some ⟨y2.heap.size, 0, none⟩) 2 2, .int .i64 0, .int .i64 1, .int .i64 0, .int .i64 1, .int .u8 6, .int .i64 0, .slice none 0 0, .slice none 0 0, .slice none 0 0, .slice none 0 0, .slice none 0 0, .int .i64 0, .int .i64 1, .int .i64 0, .int .i64 8191, .int .u8 6, .int .i64 8191, .slice none 0 0, .slice none 0 0, .slice none 0 0, .slice none 0 0, .slice none 0 0] := ⟨_, rfl⟩
        rw [← hcz]
        have SF := S3.alloc (.cells cz 29)
        have hBk := Lib.hid (show Blk (y3.alloc (.cells cz 29)) y3.heap.size 29 (someC w.heap.size (w.heap.size + 1) gk go gn wd.heap.size y2.heap.size) by rw [hcz]; exact Blk.new y3 29 _)
        have tz := (Turned.refl (fun _ => False) y3).alloc (.cells cz 29)
        have fd := Lib.hid (rd.out.fresh tz)
        have fp := Lib.hid (rp.out.fresh tz)
        clear tz hcz
        refine hK.out _ _ SF ?_
        clear hK K
        (refine ts_take (v := ?_) SF rfl (fun w' hw => ?_) ?_; rotate_left; (focus (go_simp; (try with_reducible rfl); done)); try simp only [Act.put, List.setIfInBounds_toArray, List.set_cons_zero, List.set_cons_succ])
        refine ts_nil ?_
        have SF := Lib.hid SF
        clear S0 S1 S2 S3
        go_wp2_with fail
        go_ret
        exact some_end hBk.out (hk.out.fresh SF.out) (hv.out.fresh SF.out) (hkr.out.turned SF.out (fun e => e)) (hor.out.turned SF.out (fun e => e)) (hnr.out.turned SF.out (fun e => e)) fd.out fp.out (T0.out.and_ SF.out)
      · skip
        refine now_run rfl (fun K hK => ?_)
        go_simp
        have t := (Turned.refl (fun _ => False) y1).alloc (.cells #[.int .i64 1, .int .i64 1, .int .i64 2, .int .i64 7] 54)
        have S2 := S1.alloc (.cells #[.int .i64 1, .int .i64 1, .int .i64 2, .int .i64 7] 54)
        refine hK.out _ _ S2 ?_
        clear hK K
        have rd := Lib.hid (rd.out.fresh t)
        have rp : Hid (RowE (y1.alloc (.cells #[.int .i64 1, .int .i64 1, .int .i64 2, .int .i64 7] 54)) 54 2 y1.heap.size 2 2 (pairC [(1, 1), (2, 7)])) := Lib.hid (RowE.new y1 54 2 2 #[.int .i64 1, .int .i64 1, .int .i64 2, .int .i64 7] rfl (by decide))
        clear t
        generalize y1.alloc (.cells #[.int .i64 1, .int .i64 1, .int .i64 2, .int .i64 7] 54) = y2 at *
        (refine ts_take (v := ?_) S2 rfl (fun w' hw => ?_) ?_; rotate_left; (focus (go_simp; (try with_reducible rfl); done)); try simp only [Act.put, List.setIfInBounds_toArray, List.set_cons_zero, List.set_cons_succ])
        refine ts_run rfl (fun K hK => ?_)
        go_simp
        have hcm := commit_any y2
        unfold recC comR RecS.nil Sl.nil at hcm
        simp only at hcm
        refine hcm.mono ?_
        clear hcm
        rintro e y3 ⟨rfl, t⟩
        have S3 := S2.and_ t
        have rd := Lib.hid (rd.out.fresh t)
        have rp := Lib.hid (rp.out.fresh t)
        refine hK.out _ _ S3 ?_
        clear hK K t
        refine ts_run rfl (fun K hK => ?_)
        go_simp
        obtain ⟨cz, hcz⟩ : ∃ cz : Array Value, cz = #[.int .i64 0, .int .i64 1, .int .i64 0, .int .i64 0, .int .u8 1, .int .i64 5, .slice (some ⟨w.heap.size, 0, none⟩) 1 1, .slice none 0 0, .slice (some ⟨w.heap.size + 1, 0, none⟩) 1 1, .slice none 0 0, .slice none 0 0, .int .i64 0, .int .i64 9223372036854775807, .int .i64 9223372036854775807, .int .i64 9223372036854775807, .int .u8 2, .int .i64 8191, .slice (some ⟨gk, 0, none⟩) 40 40, .slice (some ⟨go, 0, none⟩) 180 180, .slice (some ⟨gn, 0, none⟩) 180 180, .slice none 0 0, .slice none 0 0, .int .i64 0, .int .i64 3, .int .i64 258, .int .i64 0, .int .u8 3, .int .i64 0, .slice none 0 0, .slice none 0 0, .slice none 0 0, .slice none 0 0, .slice none 0 0, .int .i64 0, .int .i64 1, .int .i64 0, .int .i64 0, .int .u8 4, .int .i64 0, .slice none 0 0, .slice none 0 0, .slice none 0 0, .slice none 0 0, .slice none 0 0, .int .i64 0, .int .i64 0, .int .i64 0, .int .i64 0, .int .u8 5, .int .i64 0, .slice none 0 0, .slice none 0 0, .slice none 0 0, .slice none 0 0, .slice none 0 0, .int .i64 0, .int .i64 0, .int .i64 0, .int .i64 0, .int .u8 5, .int .i64 0, .slice none 0 0, .slice none 0 0, .slice none 0 0, .slice (some ⟨wd.heap.size, 0, none⟩) 2 2, .slice (some ⟨y1.heap.size, 0, none⟩) 2 2, .int .i64 0, .int .i64 1, .int .i64 0, .int .i64 1, .int .u8 6, .int .i64 0, .slice none 0 0, .slice none 0 0, .slice none 0 0, .slice none 0 0, .slice none 0 0, .int .i64 0, .int .i64 1, .int .i64 0, .int .i64 8191, .int .u8 6, .int .i64 8191, .slice none 0 0, .slice none 0 0, .slice none 0 0, .slice none 0 0, .slice none 0 0] := ⟨_, rfl⟩
        rw [← hcz]
        have SF := S3.alloc (.cells cz 29)
        have hBk := Lib.hid (show Blk (y3.alloc (.cells cz 29)) y3.heap.size 29 (someC w.heap.size (w.heap.size + 1) gk go gn wd.heap.size y1.heap.size) by rw [hcz]; exact Blk.new y3 29 _)
        have tz := (Turned.refl (fun _ => False) y3).alloc (.cells cz 29)
        have fd := Lib.hid (rd.out.fresh tz)
        have fp := Lib.hid (rp.out.fresh tz)
        clear tz hcz
        refine hK.out _ _ SF ?_
        clear hK K
        (refine ts_take (v := ?_) SF rfl (fun w' hw => ?_) ?_; rotate_left; (focus (go_simp; (try with_reducible rfl); done)); try simp only [Act.put, List.setIfInBounds_toArray, List.set_cons_zero, List.set_cons_succ])
        refine ts_nil ?_
        have SF := Lib.hid SF
        clear S0 S1 S2 S3
        go_wp2_with fail
        go_ret
        exact some_end hBk.out (hk.out.fresh SF.out) (hv.out.fresh SF.out) (hkr.out.turned SF.out (fun e => e)) (hor.out.turned SF.out (fun e => e)) (hnr.out.turned SF.out (fun e => e)) fd.out fp.out (T0.out.and_ SF.out)
    · skip
      refine now_run rfl (fun K hK => ?_)
      go_simp
      have t := (Turned.refl (fun _ => False) wd).alloc (.cells #[.int .i64 1, .int .i64 1, .int .i64 2, .int .i64 7] 54)
      have S1 := S0.alloc (.cells #[.int .i64 1, .int .i64 1, .int .i64 2, .int .i64 7] 54)
      refine hK.out _ _ S1 ?_
      clear hK K
      have rp : Hid (RowE (wd.alloc (.cells #[.int .i64 1, .int .i64 1, .int .i64 2, .int .i64 7] 54)) 54 2 wd.heap.size 2 2 (pairC [(1, 1), (2, 7)])) := Lib.hid (RowE.new wd 54 2 2 #[.int .i64 1, .int .i64 1, .int .i64 2, .int .i64 7] rfl (by decide))
      clear t
      generalize wd.alloc (.cells #[.int .i64 1, .int .i64 1, .int .i64 2, .int .i64 7] 54) = y1 at *
      refine ts_two ?_ ?_
      · skip
        refine now_run rfl (fun K hK => ?_)
        go_simp
        have hcm := commit_any y1
        unfold recC comR RecS.nil Sl.nil at hcm
        simp only at hcm
        refine hcm.mono ?_
        clear hcm
        rintro e y2 ⟨rfl, t⟩
        have S2 := S1.and_ t
        have rp := Lib.hid (rp.out.fresh t)
        refine hK.out _ _ S2 ?_
        clear hK K t
        refine ts_run rfl (fun K hK => ?_)
        go_simp
        have t := (Turned.refl (fun _ => False) y2).alloc (.cells #[.int .i64 0, .int .i64 1, .int .i64 8191, .int .i64 9223372036854775807] 52)
        have S3 := S2.alloc (.cells #[.int .i64 0, .int .i64 1, .int .i64 8191, .int .i64 9223372036854775807] 52)
        refine hK.out _ _ S3 ?_
        clear hK K
        have rp := Lib.hid (rp.out.fresh t)
        have rd : Hid (RowE (y2.alloc (.cells #[.int .i64 0, .int .i64 1, .int .i64 8191, .int .i64 9223372036854775807] 52)) 52 2 y2.heap.size 2 2 (pairC [(0, 1), (8191, 9223372036854775807)])) := Lib.hid (RowE.new y2 52 2 2 #[.int .i64 0, .int .i64 1, .int .i64 8191, .int .i64 9223372036854775807] rfl (by decide))
        clear t
        generalize y2.alloc (.cells #[.int .i64 0, .int .i64 1, .int .i64 8191, .int .i64 9223372036854775807] 52) = y3 at *
        (refine ts_take (v := ?_) S3 rfl (fun w' hw => ?_) ?_; rotate_left; (focus (go_simp; (try with_reducible rfl); done)); try simp only [Act.put, List.setIfInBounds_toArray, List.set_cons_zero, List.set_cons_succ])
        refine ts_run rfl (fun K hK => ?_)
        go_simp
        obtain ⟨cz, hcz⟩ : ∃ cz : Array Value, cz = #[.int .i64 0, .int .i64 1, .int .i64 0, .int .i64 0, .int .u8 1, .int .i64 5, .slice (some ⟨w.heap.size, 0, none⟩) 1 1, .slice none 0 0, .slice (some ⟨w.heap.size + 1, 0, none⟩) 1 1, .slice none 0 0, .slice none 0 0, .int .i64 0, .int .i64 9223372036854775807, .int .i64 9223372036854775807, .int .i64 9223372036854775807, .int .u8 2, .int .i64 8191, .slice (some ⟨gk, 0, none⟩) 40 40, .slice (some ⟨go, 0, none⟩) 180 180, .slice (some ⟨gn, 0, none⟩) 180 180, .slice none 0 0, .slice none 0 0, .int .i64 0, .int .i64 3, .int .i64 258, .int .i64 0, .int .u8 3, .int .i64 0, .slice none 0 0, .slice none 0 0, .slice none 0 0, .slice none 0 0, .slice none 0 0, .int .i64 0, .int .i64 1, .int .i64 0, .int .i64 0, .int .u8 4, .int .i64 0, .slice none 0 0, .slice none 0 0, .slice none 0 0, .slice none 0 0, .slice none 0 0, .int .i64 0, .int .i64 0, .int .i64 0, .int .i64 0, .int .u8 5, .int .i64 0, .slice none 0 0, .slice none 0 0, .slice none 0 0, .slice none 0 0, .slice none 0 0, .int .i64 0, .int .i64 0, .int .i64 0, .int .i64 0, .int .u8 5, .int .i64 0, .slice none 0 0, .slice none 0 0, .slice none 0 0, .slice (some ⟨y2.heap.size, 0, none⟩) 2 2, .slice (some ⟨wd.heap.size, 0, none⟩) 2 2, .int .i64 0, .int .i64 1, .int .i64 0, .int .i64 1, .int .u8 6, .int .i64 0, .slice none 0 0, .slice none 0 0, .slice none 0 0, .slice none 0 0, .slice none 0 0, .int .i64 0, .int .i64 1, .int .i64 0, .int .i64 8191, .int .u8 6, .int .i64 8191, .slice none 0 0, .slice none 0 0, .slice none 0 0, .slice none 0 0, .slice none 0 0] := ⟨_, rfl⟩
        rw [← hcz]
        have SF := S3.alloc (.cells cz 29)
        have hBk := Lib.hid (show Blk (y3.alloc (.cells cz 29)) y3.heap.size 29 (someC w.heap.size (w.heap.size + 1) gk go gn y2.heap.size wd.heap.size) by rw [hcz]; exact Blk.new y3 29 _)
        have tz := (Turned.refl (fun _ => False) y3).alloc (.cells cz 29)
        have fd := Lib.hid (rd.out.fresh tz)
        have fp := Lib.hid (rp.out.fresh tz)
        clear tz hcz
        refine hK.out _ _ SF ?_
        clear hK K
        (refine ts_take (v := ?_) SF rfl (fun w' hw => ?_) ?_; rotate_left; (focus (go_simp; (try with_reducible rfl); done)); try simp only [Act.put, List.setIfInBounds_toArray, List.set_cons_zero, List.set_cons_succ])
        refine ts_nil ?_
        have SF := Lib.hid SF
        clear S0 S1 S2 S3
        go_wp2_with fail
        go_ret
        exact some_end hBk.out (hk.out.fresh SF.out) (hv.out.fresh SF.out) (hkr.out.turned SF.out (fun e => e)) (hor.out.turned SF.out (fun e => e)) (hnr.out.turned SF.out (fun e => e)) fd.out fp.out (T0.out.and_ SF.out)
      · skip
        refine now_run rfl (fun K hK => ?_)
        go_simp
        have t := (Turned.refl (fun _ => False) y1).alloc (.cells #[.int .i64 0, .int .i64 1, .int .i64 8191, .int .i64 9223372036854775807] 52)
        have S2 := S1.alloc (.cells #[.int .i64 0, .int .i64 1, .int .i64 8191, .int .i64 9223372036854775807] 52)
        refine hK.out _ _ S2 ?_
        clear hK K
        have rp := Lib.hid (rp.out.fresh t)
        have rd : Hid (RowE (y1.alloc (.cells #[.int .i64 0, .int .i64 1, .int .i64 8191, .int .i64 9223372036854775807] 52)) 52 2 y1.heap.size 2 2 (pairC [(0, 1), (8191, 9223372036854775807)])) := Lib.hid (RowE.new y1 52 2 2 #[.int .i64 0, .int .i64 1, .int .i64 8191, .int .i64 9223372036854775807] rfl (by decide))
        clear t
        generalize y1.alloc (.cells #[.int .i64 0, .int .i64 1, .int .i64 8191, .int .i64 9223372036854775807] 52) = y2 at *
        (refine ts_take (v := ?_) S2 rfl (fun w' hw => ?_) ?_; rotate_left; (focus (go_simp; (try with_reducible rfl); done)); try simp only [Act.put, List.setIfInBounds_toArray, List.set_cons_zero, List.set_cons_succ])
        refine ts_run rfl (fun K hK => ?_)
        go_simp
        have hcm := commit_any y2
        unfold recC comR RecS.nil Sl.nil at hcm
        simp only at hcm
        refine hcm.mono ?_
        clear hcm
        rintro e y3 ⟨rfl, t⟩
        have S3 := S2.and_ t
        have rp := Lib.hid (rp.out.fresh t)
        have rd := Lib.hid (rd.out.fresh t)
        refine hK.out _ _ S3 ?_
        clear hK K t
        refine ts_run rfl (fun K hK => ?_)
        go_simp
        obtain ⟨cz, hcz⟩ : ∃ cz : Array Value, cz = #[.int .i64 0, .int .i64 1, .int .i64 0, .int .i64 0, .int .u8 1, .int .i64 5, .slice (some ⟨w.heap.size, 0, none⟩) 1 1, .slice none 0 0, .slice (some ⟨w.heap.size + 1, 0, none⟩) 1 1, .slice none 0 0, .slice none 0 0, .int .i64 0, .int .i64 9223372036854775807, .int .i64 9223372036854775807, .int .i64 9223372036854775807, .int .u8 2, .int .i64 8191, .slice (some ⟨gk, 0, none⟩) 40 40, .slice (some ⟨go, 0, none⟩) 180 180, .slice (some ⟨gn, 0, none⟩) 180 180, .slice none 0 0, .slice none 0 0, .int .i64 0, .int .i64 3, .int .i64 258, .int .i64 0, .int .u8 3, .int .i64 0, .slice none 0 0, .slice none 0 0, .slice none 0 0, .slice none 0 0, .slice none 0 0, .int .i64 0, .int .i64 1, .int .i64 0, .int .i64 0, .int .u8 4, .int .i64 0, .slice none 0 0, .slice none 0 0, .slice none 0 0, .slice none 0 0, .slice none 0 0, .int .i64 0, .int .i64 0, .int .i64 0, .int .i64 0, .int .u8 5, .int .i64 0, .slice none 0 0, .slice none 0 0, .slice none 0 0, .slice none 0 0, .slice none 0 0, .int .i64 0, .int .i64 0, .int .i64 0, .int .i64 0, .int .u8 5, .int .i64 0, .slice none 0 0, .slice none 0 0, .slice none 0 0, .slice (some ⟨y1.heap.size, 0, none⟩) 2 2, .slice (some ⟨wd.heap.size, 0, none⟩) 2 2, .int .i64 0, .int .i64 1, .int .i64 0, .int .i64 1, .int .u8 6, .int .i64 0, .slice none 0 0, .slice none 0 0, .slice none 0 0, .slice none 0 0, .slice none 0 0, .int .i64 0, .int .i64 1, .int .i64 0, .int .i64 8191, .int .u8 6, .int .i64 8191, .slice none 0 0, .slice none 0 0, .slice none 0 0, .slice none 0 0, .slice none 0 0] := ⟨_, rfl⟩
        rw [← hcz]
        have SF := S3.alloc (.cells cz 29)
        have hBk := Lib.hid (show Blk (y3.alloc (.cells cz 29)) y3.heap.size 29 (someC w.heap.size (w.heap.size + 1) gk go gn y1.heap.size wd.heap.size) by rw [hcz]; exact Blk.new y3 29 _)
        have tz := (Turned.refl (fun _ => False) y3).alloc (.cells cz 29)
        have fd := Lib.hid (rd.out.fresh tz)
        have fp := Lib.hid (rp.out.fresh tz)
        clear tz hcz
        refine hK.out _ _ SF ?_
        clear hK K
        (refine ts_take (v := ?_) SF rfl (fun w' hw => ?_) ?_; rotate_left; (focus (go_simp; (try with_reducible rfl); done)); try simp only [Act.put, List.setIfInBounds_toArray, List.set_cons_zero, List.set_cons_succ])
        refine ts_nil ?_
        have SF := Lib.hid SF
        clear S0 S1 S2 S3
        go_wp2_with fail
        go_ret
        exact some_end hBk.out (hk.out.fresh SF.out) (hv.out.fresh SF.out) (hkr.out.turned SF.out (fun e => e)) (hor.out.turned SF.out (fun e => e)) (hnr.out.turned SF.out (fun e => e)) fd.out fp.out (T0.out.and_ SF.out)
end Go.Proofs.YtohajofkflibjaaGreatDoor

