/-
  What the statements share, for commands: SameTexts, SameParts, SameAsk, of what is alike. No condition.
-/
import Derived.Test.YtglojnmcbochaaaGreatDoorRAskR
import Derived.Test.YtglojnmcbochaaaGreatDoorRCodA
import Derived.Deep.QuietTactic
import Derived.BigQuiet
namespace Go.Proofs.YtglojnmcbochaaaGreatDoor
open Go.RowKit Go.Maps
set_option linter.unusedVariables false
set_option linter.unusedSimpArgs false

def DrwRel (n : Nat) (w : World) (i : Value) (wr : World) : Prop := ∃ j k : Nat, j ≤ n ∧ i = .int .i64 j ∧ wr = w.drewN k
theorem SlT.drewN {w : World} {s : Sl} {l : List (List UInt8)} (h : SlT w s l) (k : Nat) : SlT (w.drewN k) s l := h.fresh ((Turned.refl _ w).drewN k)
theorem SlQ.drewN {w : World} {s : Sl} {l : List (List UInt8 × Int)} (h : SlQ w s l) (k : Nat) : SlQ (w.drewN k) s l := h.fresh ((Turned.refl _ w).drewN k)
set_option maxRecDepth 100000 in
set_option maxHeartbeats 1000000 in
theorem sameT_any (a b : Sl) (l : List (List UInt8)) (w : World) (ha : SlT w a l) (hb : SlT w b l) : Calls Tryz.prog 71 #[.slice a.A a.n a.c, .slice b.A b.n b.c] w (RetDraw (.bool true) w) := by
  obtain ⟨A, n, c⟩ := a
  obtain ⟨B, m, d⟩ := b
  have h1 := ha.len
  have h2 := hb.len
  have hn := Nat.le_trans ha.le ha.max
  simp only at h1 h2 hn ⊢
  unfold maxLen at hn
  obtain rfl : n = m := by omega
  have ha' := Lib.hid ha
  have hb' := Lib.hid hb
  clear ha hb h1 h2
  go_enter Tryz.func71, Tryz.ntmps71
  go_wp2
  go_loopw [5] (fun i wr => DrwRel n w i wr) (fun i _ => n - (intOf i).toNat)
  case atStart => exact ⟨0, 0, by omega, rfl, rfl⟩
  case round =>
    obtain ⟨j, k, hj, rfl, hwr⟩ := hrel
    by_cases hlt : j < n
    · have hji : (j : Int) < (n : Int) := by omega
      obtain ⟨ba, oa, hA, hca⟩ := (ha'.out.drewN k).cells (show 0 < n by omega)
      obtain ⟨bb, ob, hB, hcb⟩ := (hb'.out.drewN k).cells (show 0 < n by omega)
      simp only at hA hB
      subst hA hB
      have q1 := hca j hlt
      have q3 := hcb j hlt
      rw [← hwr] at q1 q3
      unfold strV at q1 q3
      have hwr' := Lib.hid hwr
      clear hca hcb hwr
      generalize (⟨(l.getD j []).toArray⟩ : ByteArray) = x at *
      go_wp2
      go_quiet (fail)
      go_wp2
      go_roundw
      case rel =>
        first
        | exact ⟨j + 1, k + nq, by omega, by go_num, by rw [hwr'.out, World.drewN_drewN]⟩
        | ((repeat apply Exists.intro); exact ⟨⟨j + 1, k + nq, by omega, by go_num, by rw [hwr'.out, World.drewN_drewN]⟩, rfl⟩)
      case measure => simp [intOf] <;> omega
    · have hge : (n : Int) ≤ (j : Int) := by omega
      have hwr' := Lib.hid hwr
      clear hwr
      go_wp2
      go_ret
      exact ⟨rfl, k, hwr'.out⟩
set_option maxRecDepth 100000 in
set_option maxHeartbeats 1000000 in
theorem sameQ_any (a b : Sl) (l : List (List UInt8 × Int)) (w : World) (ha : SlQ w a l) (hb : SlQ w b l) : Calls Tryz.prog 70 #[.slice a.A a.n a.c, .slice b.A b.n b.c] w (RetDraw (.bool true) w) := by
  obtain ⟨A, n, c⟩ := a
  obtain ⟨B, m, d⟩ := b
  have h1 := ha.len
  have h2 := hb.len
  have hn := Nat.le_trans ha.le ha.max
  simp only at h1 h2 hn ⊢
  unfold maxLen at hn
  obtain rfl : n = m := by omega
  have ha' := Lib.hid ha
  have hb' := Lib.hid hb
  clear ha hb h1 h2
  go_enter Tryz.func70, Tryz.ntmps70
  go_wp2
  go_loopw [5] (fun i wr => DrwRel n w i wr) (fun i _ => n - (intOf i).toNat)
  case atStart => exact ⟨0, 0, by omega, rfl, rfl⟩
  case round =>
    obtain ⟨j, k, hj, rfl, hwr⟩ := hrel
    by_cases hlt : j < n
    · have hji : (j : Int) < (n : Int) := by omega
      obtain ⟨ba, oa, hA, hca⟩ := (ha'.out.drewN k).cells (show 0 < n by omega)
      obtain ⟨bb, ob, hB, hcb⟩ := (hb'.out.drewN k).cells (show 0 < n by omega)
      simp only at hA hB
      subst hA hB
      obtain ⟨q1, q2⟩ := hca j hlt
      obtain ⟨q3, q4⟩ := hcb j hlt
      rw [← hwr] at q1 q2 q3 q4
      unfold strV at q1 q3
      have hwr' := Lib.hid hwr
      clear hca hcb hwr
      generalize (⟨(itemAt l j).toArray⟩ : ByteArray) = x at *
      generalize qtyAt l j = y at *
      go_wp2
      go_quiet (fail)
      go_wp2
      go_roundw
      case rel =>
        first
        | exact ⟨j + 1, k + nq, by omega, by go_num, by rw [hwr'.out, World.drewN_drewN]⟩
        | ((repeat apply Exists.intro); exact ⟨⟨j + 1, k + nq, by omega, by go_num, by rw [hwr'.out, World.drewN_drewN]⟩, rfl⟩)
      case measure => simp [intOf] <;> omega
    · have hge : (n : Int) ≤ (j : Int) := by omega
      have hwr' := Lib.hid hwr
      clear hwr
      go_wp2
      go_ret
      exact ⟨rfl, k, hwr'.out⟩
set_option maxRecDepth 100000 in
set_option maxHeartbeats 2000000 in
theorem sameA_any (a : AskV) (S1 S2 : AskS) (w : World) (h1 : AskIs w a S1) (h2 : AskIs w a S2) : Calls Tryz.prog 29 #[.agg (askC a S1), .agg (askC a S2)] w (RetNew (.bool true) w) := by
  have HT := Lib.hid (fun (w' : World) (t : Turned (fun _ => False) w w') => sameT_any S1.O S2.O a.others w' (h1.others.fresh t) (h2.others.fresh t))
  have HQ := Lib.hid (fun (w' : World) (t : Turned (fun _ => False) w w') => sameQ_any S1.P S2.P a.parts w' (h1.parts.fresh t) (h2.parts.fresh t))
  clear h1 h2
  obtain ⟨kind, request, item, qty, day, days, rank, lot, line, parts, others⟩ := a
  obtain ⟨⟨PA, Pn, Pc⟩, ⟨OA, On, Oc⟩⟩ := S1
  obtain ⟨⟨UA, Un, Uc⟩, ⟨VA, Vn, Vc⟩⟩ := S2
  have B1 := Blk.new w 28 (askC ⟨kind, request, item, qty, day, days, rank, lot, line, parts, others⟩ ⟨⟨PA, Pn, Pc⟩, ⟨OA, On, Oc⟩⟩)
  have t1 := (Turned.refl (fun _ => False) w).alloc (.cells (askC ⟨kind, request, item, qty, day, days, rank, lot, line, parts, others⟩ ⟨⟨PA, Pn, Pc⟩, ⟨OA, On, Oc⟩⟩) 28)
  have B2 := Blk.new_at (k := w.heap.size + 1) (w.alloc (.cells (askC ⟨kind, request, item, qty, day, days, rank, lot, line, parts, others⟩ ⟨⟨PA, Pn, Pc⟩, ⟨OA, On, Oc⟩⟩) 28)) 28 (askC ⟨kind, request, item, qty, day, days, rank, lot, line, parts, others⟩ ⟨⟨UA, Un, Uc⟩, ⟨VA, Vn, Vc⟩⟩) (by simp)
  have t2 := (Turned.refl (fun _ => False) (w.alloc (.cells (askC ⟨kind, request, item, qty, day, days, rank, lot, line, parts, others⟩ ⟨⟨PA, Pn, Pc⟩, ⟨OA, On, Oc⟩⟩) 28))).alloc (.cells (askC ⟨kind, request, item, qty, day, days, rank, lot, line, parts, others⟩ ⟨⟨UA, Un, Uc⟩, ⟨VA, Vn, Vc⟩⟩) 28)
  have A1 := Lib.hid (AskAt.fresh (a := ⟨kind, request, item, qty, day, days, rank, lot, line, parts, others⟩) (S := ⟨⟨PA, Pn, Pc⟩, ⟨OA, On, Oc⟩⟩) B1 t2)
  have A2 := Lib.hid (show AskAt _ _ ⟨kind, request, item, qty, day, days, rank, lot, line, parts, others⟩ ⟨⟨UA, Un, Uc⟩, ⟨VA, Vn, Vc⟩⟩ from B2)
  have T0 := Lib.hid (t1.and_ t2)
  clear B1 B2 t1 t2
  unfold askC strV at *
  simp only at HT HQ A1 A2 T0 ⊢
  go_enter Tryz.func29, Tryz.ntmps29
  go_wp2_with fail
  generalize (w.alloc (.cells #[.int .u8 kind, .int .i64 request, .string ⟨item.toArray⟩, .int .i64 qty, .int .i64 day, .int .i64 days, .int .i64 rank, .int .i64 lot, .int .i64 line, .slice PA Pn Pc, .slice OA On Oc] 28)).alloc (.cells #[.int .u8 kind, .int .i64 request, .string ⟨item.toArray⟩, .int .i64 qty, .int .i64 day, .int .i64 days, .int .i64 rank, .int .i64 lot, .int .i64 line, .slice UA Un Uc, .slice VA Vn Vc] 28) = w0 at *
  generalize w.heap.size + 1 = b2 at *
  generalize w.heap.size = b1 at *
  obtain ⟨c0, c1, c2, c3, c4, c5, c6, c7, c8, c9, c10⟩ := A1.out.cells
  simp only at c0 c1 c2 c3 c4 c5 c6 c7 c8 c9 c10
  obtain ⟨d0, d1, d2, d3, d4, d5, d6, d7, d8, d9, d10⟩ := A2.out.cells
  simp only at d0 d1 d2 d3 d4 d5 d6 d7 d8 d9 d10
  refine (HQ.out w0 T0.out).mono ?_
  rintro e w2 ⟨rfl, n2, rfl⟩
  clear c0 c1 c2 c3 c4 c5 c6 c7 c8 c9 c10 d0 d1 d2 d3 d4 d5 d6 d7 d8 d9 d10
  obtain ⟨c0, c1, c2, c3, c4, c5, c6, c7, c8, c9, c10⟩ := (A1.out.fresh ((Turned.refl (fun _ => False) w0).drewN n2)).cells
  simp only at c0 c1 c2 c3 c4 c5 c6 c7 c8 c9 c10
  obtain ⟨d0, d1, d2, d3, d4, d5, d6, d7, d8, d9, d10⟩ := (A2.out.fresh ((Turned.refl (fun _ => False) w0).drewN n2)).cells
  simp only at d0 d1 d2 d3 d4 d5 d6 d7 d8 d9 d10
  go_wp2_with fail
  refine (HT.out _ (T0.out.drewN n2)).mono ?_
  rintro e w3 ⟨rfl, n3, rfl⟩
  go_wp2_with fail
  go_ret
  exact ⟨rfl, T0.out.drewN _⟩
end Go.Proofs.YtglojnmcbochaaaGreatDoor

