/-
  No disk, and one that nobody made: what mark tells of them; MarkNil's walk.
-/
import Derived.Test.YtobjoafhhchjgaaMrkG
import Derived.Test.YtobjoafhhchjgaaRegB
namespace Go.Proofs.Ytobjoafhhchjgaa
open Go.RowKit Go.Maps

/-- 'big' says that p is no disk, whatever is made besides. -/
def NoBig (w : World) (p : Option Addr) : Prop := ∀ w', Turned (fun _ => False) w w' → Calls Try.prog 58 #[.pointer p] w' (RetSame (.int .i64 1) w')
theorem NoBig.fresh {w w1 : World} {p : Option Addr} (h : NoBig w p) (ht : Turned (fun _ => False) w w1) : NoBig w1 p := fun w' h' => h w' (ht.trans h' (fun _ e => e) (fun _ e => e.elim))
theorem mwrite_none {w : World} {p : Option Addr} (h : NoBig w p) (m : M4) :
    Calls Try.prog 37 #[.pointer p, .agg #[.int .i64 m.seq, .int .i64 m.turn, .int .i64 m.old, .int .i64 m.mark]] w (RetNew (.int .i64 1) w) := by
  obtain ⟨seq, turn, old, mark⟩ := m
  have hb := Lib.hid (h _ ((Turned.refl (fun _ => False) w).alloc (.cells #[.int .i64 seq, .int .i64 turn, .int .i64 old, .int .i64 mark] 59)))
  clear h
  go_enter Try.func37, Try.ntmps37
  go_wp2_with fail
  refine hb.out.mono ?_
  rintro e w1 ⟨rfl, rfl⟩
  go_wp2_with fail
  go_ret
  exact ⟨rfl, (Turned.refl (fun _ => False) w).alloc _⟩
theorem mformat_none {w : World} {p : Option Addr} (h : NoBig w p) : Calls Try.prog 38 #[.pointer p] w (RetSame (.int .i64 1) w) := by
  have hb := Lib.hid (h _ (Turned.refl _ w))
  clear h
  go_enter Try.func38, Try.ntmps38
  go_wp2_with fail
  refine hb.out.mono ?_
  rintro e w1 ⟨rfl, rfl⟩
  go_wp2_with fail
  go_ret
  exact ⟨rfl, rfl⟩
set_option maxRecDepth 100000 in
theorem mread_none {w : World} {p : Option Addr} (h : NoBig w p) : Calls Try.prog 36 #[.pointer p] w (MrPost (1, M4.zero) w) := by
  have hb := Lib.hid (h _ ((Turned.refl (fun _ => False) w).alloc (.cells #[.int .i64 0, .int .i64 0, .int .i64 0, .int .i64 0] 59)))
  clear h
  go_enter Try.func36, Try.ntmps36
  go_wp2_with fail
  refine hb.out.mono ?_
  rintro e w1 ⟨rfl, rfl⟩
  go_wp2_with fail
  refine bodyPost_ret (v := .tuple #[.agg #[.int .i64 0, .int .i64 0, .int .i64 0, .int .i64 0], .int .i64 1]) (by simp [results, Try.results36, go_sem]) rfl ⟨rfl, ?_⟩
  exact (Turned.refl (fun _ => False) w).alloc _

structure NilAt (w : World) (b d x : Nat) (m : M4) : Prop where
  l : Blk w b 25 #[.pointer none, .pointer (some ⟨d, 0, none⟩)]
  d : Blk w d 54 (unmCells 0)
  x : Blk w x 59 #[.int .i64 m.seq, .int .i64 m.turn, .int .i64 m.old, .int .i64 m.mark]
theorem NilAt.fresh {w w' : World} {b d x : Nat} {m : M4} (h : NilAt w b d x m) (ht : Turned (fun _ => False) w w') : NilAt w' b d x m := ⟨h.l.turned ht (fun e => e), h.d.turned ht (fun e => e), h.x.turned ht (fun e => e)⟩
def NilRel (b d x : Nat) (m : M4) (w : World) (i : Value) (wr : World) : Prop := ∃ j : Nat, j ≤ 2 ∧ i = .int .i64 j ∧ NilAt wr b d x m ∧ Turned (fun _ => False) w wr

set_option maxRecDepth 100000 in
set_option maxHeartbeats 1000000 in
theorem markNil_any (m : M4) (w : World) : Calls Try.prog 9 #[.agg #[.int .i64 m.seq, .int .i64 m.turn, .int .i64 m.old, .int .i64 m.mark]] w (OkNew w) := by
  obtain ⟨seq, turn, old, mark⟩ := m
  go_enter Try.func9, Try.ntmps9
  go_wp2_with fail
  refine (awake25_any _).mono ?_
  rintro e w1 ⟨rfl, ht1⟩
  have hx1 := (Blk.new w 59 #[.int .i64 seq, .int .i64 turn, .int .i64 old, .int .i64 mark]).turned ht1 (fun e => e)
  have hT1 := ((Turned.refl (fun _ => False) w).alloc (.cells #[.int .i64 seq, .int .i64 turn, .int .i64 old, .int .i64 mark] 59)).trans (W := fun _ => False) ht1 (fun _ e => e) (fun _ e => e.elim)
  clear ht1
  go_wp2_with fail
  have hR : NilRel (w1.heap.size + 1) w1.heap.size w.heap.size ⟨seq, turn, old, mark⟩ w (.int .i64 0) ((w1.alloc (.cells (unmCells 0) 54)).alloc (.cells #[.pointer none, .pointer (some ⟨w1.heap.size, 0, none⟩)] 25)) :=
    ⟨0, by omega, rfl, ⟨Blk.new_at _ _ _ (by simp), (Blk.new w1 _ _).alloc _, (hx1.alloc _).alloc _⟩, (hT1.alloc _).alloc _⟩
  have hR' := Lib.hid hR
  clear hR hx1 hT1
  go_loopw [4] (fun i wr => NilRel (w1.heap.size + 1) w1.heap.size w.heap.size ⟨seq, turn, old, mark⟩ w i wr) (fun i _ => 2 - (intOf i).toNat)
  case atStart => exact hR'.out
  case round =>
    obtain ⟨j, hj, rfl, hA, hT⟩ := hrel
    clear hR'
    have hA' := Lib.hid hA
    by_cases hlt : j < 2
    · have hji : (j : Int) < 2 := by omega
      obtain ⟨p, hp, hnb⟩ : ∃ p, wr.cell? ⟨w1.heap.size + 1, j, none⟩ = some (.pointer p) ∧ NoBig wr p := by
        rcases (show j = 0 ∨ j = 1 by omega) with rfl | rfl
        · exact ⟨none, hA.l.cell 0, fun w' _ => big_nil w'⟩
        · exact ⟨some ⟨w1.heap.size, 0, none⟩, hA.l.cell 1, fun w' ht => big_unmade _ _ ((hA.d.turned ht (fun e => e)).cell 0)⟩
      have hnb' := Lib.hid hnb
      have hp' := Lib.hid hp
      clear hnb hA
      go_wp2_with fail
      refine (mread_none hnb'.out).mono ?_
      rintro e w2 ⟨rfl, ht2⟩
      have hp2 := cell_turned ht2 hp (fun e => e)
      have hA2 := hA'.out.fresh ht2
      clear hp
      unfold M4.zero
      go_wp2_with fail
      have hm3 := Blk.new w2 59 #[.int .i64 0, .int .i64 0, .int .i64 0, .int .i64 0]
      have ht3 := ht2.alloc (.cells #[.int .i64 0, .int .i64 0, .int .i64 0, .int .i64 0] 59)
      have hp3 := cell_turned ((Turned.refl (fun _ => False) w2).alloc (.cells #[.int .i64 0, .int .i64 0, .int .i64 0, .int .i64 0] 59)) hp2 (fun e => e)
      have hA3 := hA2.fresh ((Turned.refl (fun _ => False) w2).alloc (.cells #[.int .i64 0, .int .i64 0, .int .i64 0, .int .i64 0] 59))
      clear hp2 hA2 ht2
      generalize w2.alloc (.cells #[.int .i64 0, .int .i64 0, .int .i64 0, .int .i64 0] 59) = w3 at *
      obtain ⟨q0, q1, q2, q3⟩ := m4_cells hm3
      obtain ⟨x0, x1, x2, x3⟩ := m4_cells hA3.x
      have hb3 := hnb'.out.fresh ht3
      have hb3' := Lib.hid hb3
      clear hb3
      refine wp_region_segs (fun w' => (w'.cell? ⟨w2.heap.size, 0, none⟩ = some (.int .i64 0) ∧ w'.cell? ⟨w2.heap.size, 1, none⟩ = some (.int .i64 0) ∧ w'.cell? ⟨w2.heap.size, 2, none⟩ = some (.int .i64 0) ∧ w'.cell? ⟨w2.heap.size, 3, none⟩ = some (.int .i64 0)) ∧ w'.cell? ⟨w1.heap.size + 1, j, none⟩ = some (.pointer p) ∧
        (w'.cell? ⟨w.heap.size, 0, none⟩ = some (.int .i64 seq) ∧ w'.cell? ⟨w.heap.size, 1, none⟩ = some (.int .i64 turn) ∧ w'.cell? ⟨w.heap.size, 2, none⟩ = some (.int .i64 old) ∧ w'.cell? ⟨w.heap.size, 3, none⟩ = some (.int .i64 mark))) (segT (List.range 13) ++ segF [13] ++ segT [14, 15, 16, 17, 18, 19, 20] ++ segF [21] ++ segT [22, 23]) mixed (by kernel_rfl) (fun _ _ _ _ _ h => h) ?_
      simp only [segT, segF, pickSegs, List.range, List.range.loop, List.map_cons, List.map_nil, List.cons_append, List.nil_append, List.filterMap_cons, List.filterMap_nil, List.getElem?_cons_zero, List.getElem?_cons_succ, Option.map_some]
      iterate 13 (refine wpSegs_take (v := ?_) ⟨⟨q0, q1, q2, q3⟩, hp3, x0, x1, x2, x3⟩ rfl (fun w' hw => ?_) ?_; rotate_left; (obtain ⟨⟨hw0, hw1, hw2, hw3⟩, hwp, hx0, hx1, hx2, hx3⟩ := hw; go_simp; try with_reducible rfl); try simp only [Act.put, List.setIfInBounds_toArray, List.set_cons_zero, List.set_cons_succ])
      refine wpSegs_run rfl (fun K hK => ?_)
      go_simp
      refine (mwrite_none (w := w3.drew) (hb3'.out.fresh (Turned.refl (fun _ => False) w3).drew) ⟨seq, turn, old, mark⟩).mono ?_
      rintro e w4 ⟨rfl, ht4'⟩
      have ht4 : Turned (fun _ => False) w3 w4 := ⟨ht4'.os, ht4'.tape, ht4'.output, ht4'.size, ht4'.block⟩
      have hm4 := hm3.turned ht4 (fun e => e)
      obtain ⟨q0, q1, q2, q3⟩ := m4_cells hm4
      have hA4 := hA3.fresh ht4
      obtain ⟨x0, x1, x2, x3⟩ := m4_cells hA4.x
      have hp4 := cell_turned ht4 hp3 (fun e => e)
      refine hK.out _ _ ⟨⟨q0, q1, q2, q3⟩, hp4, x0, x1, x2, x3⟩ ?_
      clear hK K
      iterate 7 (refine wpSegs_take (v := ?_) ⟨⟨q0, q1, q2, q3⟩, hp4, x0, x1, x2, x3⟩ rfl (fun w' hw => ?_) ?_; rotate_left; (obtain ⟨⟨hw0, hw1, hw2, hw3⟩, hwp, hx0, hx1, hx2, hx3⟩ := hw; go_simp; try with_reducible rfl); try simp only [Act.put, List.setIfInBounds_toArray, List.set_cons_zero, List.set_cons_succ])
      refine wpSegs_run rfl (fun K hK => ?_)
      go_simp
      refine (mformat_none (hb3'.out.fresh ht4)).mono ?_
      rintro e w5 ⟨rfl, rfl⟩
      refine hK.out _ _ ⟨⟨q0, q1, q2, q3⟩, hp4, x0, x1, x2, x3⟩ ?_
      clear hK K
      iterate 2 (refine wpSegs_take (v := ?_) ⟨⟨q0, q1, q2, q3⟩, hp4, x0, x1, x2, x3⟩ rfl (fun w' hw => ?_) ?_; rotate_left; (obtain ⟨⟨hw0, hw1, hw2, hw3⟩, hwp, hx0, hx1, hx2, hx3⟩ := hw; go_simp; try with_reducible rfl); try simp only [Act.put, List.setIfInBounds_toArray, List.set_cons_zero, List.set_cons_succ])
      refine wpSegs_nil ?_
      have hRn : NilRel (w1.heap.size + 1) w1.heap.size w.heap.size ⟨seq, turn, old, mark⟩ w (.int .i64 ((j + 1 : Nat) : Int)) w4 := ⟨j + 1, by omega, rfl, hA4, (hT.trans (W := fun _ => False) ht3 (fun _ e => e) (fun _ e => e.elim)).trans (W := fun _ => False) ht4 (fun _ e => e) (fun _ e => e.elim)⟩
      have hRn' := Lib.hid hRn
      clear hRn q0 q1 q2 q3 x0 x1 x2 x3 hp3 hp4 hm3 hm4 hA3 hA4
      go_wp2
      go_roundw
      case rel =>
        have hz : Value.int .i64 ((j : Int) + 1) = .int .i64 ((j + 1 : Nat) : Int) := by go_num
        first
        | (rw [hz]; exact hRn'.out)
        | ((repeat apply Exists.intro); exact ⟨by rw [hz]; exact hRn'.out, rfl⟩)
      case measure => simp [intOf]; omega
    · have hge : (2 : Int) ≤ (j : Int) := by omega
      clear hA
      go_wp2
      go_ret
      exact ⟨rfl, hT⟩
end Go.Proofs.Ytobjoafhhchjgaa
