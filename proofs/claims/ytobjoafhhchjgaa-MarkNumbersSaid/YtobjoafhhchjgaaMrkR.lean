/-
  The document's masters on the document's disk: May, Of, Write, Format, Read.
-/
import Derived.Test.YtobjoafhhchjgaaMrkF
import Derived.Test.YtobjoafhhchjgaaRegB
namespace Go.Proofs.Ytobjoafhhchjgaa
open Go.RowKit Go.Maps

theorem rmay_to (m : M4) (r : Bool) (w : World) (h : m.may = r) : Calls Try.prog 72 #[.agg #[.int .i64 m.seq, .int .i64 m.turn, .int .i64 m.old, .int .i64 m.mark]] w (RetNew (.bool r) w) := by
  subst h
  obtain ⟨seq, turn, old, mark⟩ := m
  unfold M4.may inB
  simp only []
  have fin : ∀ w, RetNew (.bool (decide (1 ≤ seq) && decide (seq ≤ 2305843009213693952) && (decide (1 ≤ turn) && decide (turn ≤ 2147483647)) && (decide (1 ≤ old) && decide (old ≤ 1152921504606846976)) && (decide (0 ≤ mark) && decide (mark ≤ 1152921504606846976)))) w = RetNew (.bool (decide (1 ≤ seq) && decide (seq ≤ 2305843009213693952) && (decide (1 ≤ turn) && decide (turn ≤ 2147483647)) && (decide (1 ≤ old) && decide (old ≤ 1152921504606846976)) && (decide (0 ≤ mark) && decide (mark ≤ 1152921504606846976)))) w := fun _ => rfl
  clear fin
  cases h1 : decide (1 ≤ seq) with
  | false =>
    go_enter Try.func72, Try.ntmps72
    go_wp2
    go_ret
    exact ⟨ret_bool (by simp), (Turned.refl _ w).alloc _⟩
  | true =>
    cases h2 : decide (seq ≤ 2305843009213693952) with
    | false =>
      go_enter Try.func72, Try.ntmps72
      go_wp2
      go_ret
      exact ⟨ret_bool (by simp), (Turned.refl _ w).alloc _⟩
    | true =>
      cases h3 : decide (1 ≤ turn) with
      | false =>
        go_enter Try.func72, Try.ntmps72
        go_wp2
        go_ret
        exact ⟨ret_bool (by simp), (Turned.refl _ w).alloc _⟩
      | true =>
        cases h4 : decide (turn ≤ 2147483647) with
        | false =>
          go_enter Try.func72, Try.ntmps72
          go_wp2
          go_ret
          exact ⟨ret_bool (by simp), (Turned.refl _ w).alloc _⟩
        | true =>
          cases h5 : decide (1 ≤ old) with
          | false =>
            go_enter Try.func72, Try.ntmps72
            go_wp2
            go_ret
            exact ⟨ret_bool (by simp), (Turned.refl _ w).alloc _⟩
          | true =>
            cases h6 : decide (old ≤ 1152921504606846976) with
            | false =>
              go_enter Try.func72, Try.ntmps72
              go_wp2
              go_ret
              exact ⟨ret_bool (by simp), (Turned.refl _ w).alloc _⟩
            | true =>
              cases h7 : decide (0 ≤ mark) with
              | false =>
                go_enter Try.func72, Try.ntmps72
                go_wp2
                go_ret
                exact ⟨ret_bool (by simp), (Turned.refl _ w).alloc _⟩
              | true =>
                go_enter Try.func72, Try.ntmps72
                go_wp2
                go_ret
                exact ⟨ret_bool (by simp), (Turned.refl _ w).alloc _⟩

/-- The document's number out of bytes. -/
def udec (l : List Int) : Int := l.foldl (fun a c => IntKind.u64.wrap (256 * a + c)) 0
theorem udec_snoc (l : List Int) (c : Int) : udec (l ++ [c]) = IntKind.u64.wrap (256 * udec l + c) := by simp [udec, List.foldl_append]
theorem udec_dec (l : List Int) : IntKind.i64.wrap (udec l) = dec8 l := by
  have key : ∀ (l : List Int) (a b : Int), IntKind.i64.wrap a = b → IntKind.i64.wrap (l.foldl (fun a c => IntKind.u64.wrap (256 * a + c)) a) = l.foldl (fun a c => IntKind.i64.wrap (a * 256 + c)) b := by
    intro l
    induction l with
    | nil => exact fun a b h => h
    | cons c r ih =>
      intro a b h
      rw [List.foldl_cons, List.foldl_cons]
      refine ih _ _ ?_
      subst h
      simp only [IntKind.wrap_i64, IntKind.wrap_u64]
      omega
  exact key l 0 0 rfl
def udecAt (zs : List Int) (k j : Nat) : Int := udec ((zs.drop (8 + 8 * j)).take (min 8 (k - 8 * j)))
theorem udecAt_hit (zs : List Int) (k j : Nat) (hl : 40 ≤ zs.length) (hk : k / 8 = j) (h : k < 32) : udecAt zs (k + 1) j = IntKind.u64.wrap (256 * udecAt zs k j + zs.getD (8 + k) 0) := by
  unfold udecAt
  rw [show min 8 (k + 1 - 8 * j) = min 8 (k - 8 * j) + 1 by omega, List.take_succ_eq_append_getElem (by rw [List.length_drop]; omega), udec_snoc]
  congr 2
  rw [List.getElem_drop, List.getD_eq_getElem?_getD, List.getElem?_eq_getElem (by omega)]
  simp only [Option.getD_some]
  congr 1
  omega
theorem udecAt_miss (zs : List Int) (k j : Nat) (hk : k / 8 ≠ j) : udecAt zs (k + 1) j = udecAt zs k j := by
  unfold udecAt
  rw [show min 8 (k + 1 - 8 * j) = min 8 (k - 8 * j) by omega]
theorem udecAt_dec (zs : List Int) (k j : Nat) : IntKind.i64.wrap (udecAt zs k j) = decAt zs k j := udec_dec _
theorem udec_range : ∀ l : List Int, 0 ≤ udec l ∧ udec l ≤ 18446744073709551615 := by
  intro l
  rcases List.eq_nil_or_concat l with rfl | ⟨r, c, rfl⟩
  · decide
  · rw [List.concat_eq_append, udec_snoc, IntKind.wrap_u64]; omega
theorem u64_two (u c : Int) : IntKind.u64.wrap (IntKind.u64.wrap (256 * u) + c) = IntKind.u64.wrap (256 * u + c) := by
  simp only [IntKind.wrap_u64]
  omega

def ofOk (zs : List Int) (i : Int) : Bool := (M4.of zs).may && decide ((M4.of zs).seq % 2 = i) && decide (mBytes (M4.of zs).list = zs)
theorem rdOk_of (zs : List Int) (i : Int) (best : M4) : rdOk zs i best = (ofOk zs i && decide (best.seq < (M4.of zs).seq)) := rfl
def ofRes (zs : List Int) (i : Int) : M4 := if ofOk zs i then M4.of zs else M4.zero
def OfPost (zs : List Int) (i : Int) (w : World) (e : Ending) (w' : World) : Prop :=
  e = .returned (.tuple #[.agg #[.int .i64 (ofRes zs i).seq, .int .i64 (ofRes zs i).turn, .int .i64 (ofRes zs i).old, .int .i64 (ofRes zs i).mark], .bool (ofOk zs i)]) ∧ Turned (fun _ => False) w w'
def udecCells (zs : List Int) (k : Nat) : Array Value := #[.int .u64 (udecAt zs k 0), .int .u64 (udecAt zs k 1), .int .u64 (udecAt zs k 2), .int .u64 (udecAt zs k 3)]
def OfRel (ga : Nat) (zs : List Int) (w0 : World) (i : Value) (wr : World) : Prop := ∃ k : Nat, k ≤ 32 ∧ i = .int .i64 k ∧ Blk wr ga 112 (udecCells zs k) ∧ Turned (· = ga) w0 wr

theorem strs_eq (ys zs : List Int) (by_ : ∀ z ∈ ys, isByte z) (bz : ∀ z ∈ zs, isByte z) : ((strOfNums ys).toList == (strOfNums zs).toList) = decide (ys = zs) := by
  by_cases e : ys = zs
  · subst e; simp
  · have : ¬ (strOfNums ys).toList = (strOfNums zs).toList := fun h => e (strOf_inj by_ bz (WideShapes.bytes_inj (by rw [← ByteArray.toList_eq, ← ByteArray.toList_eq]; exact h)))
    rw [decide_eq_false e, beq_eq_false_iff_ne]
    exact this

-- PRINTED BY wip/gen_mrkr.py
set_option maxRecDepth 100000 in
set_option maxHeartbeats 2000000 in
theorem rof_any (g cap : Nat) (zs : List Int) (at_ : Int) (w : World) (hr : RowB w 5 g 512 cap zs) (hs : Sec zs) :
    Calls Try.prog 73 #[.slice (some ⟨g, 0, none⟩) 512 cap, .int .i64 at_] w (OfPost zs at_ w) := by
  have hle := hr.le
  have hr' := Lib.hid hr
  have hsec' := Lib.hid hs
  have hgl := hr.lt
  clear hr hs
  go_enter Try.func73, Try.ntmps73
  go_wp2_with fail
  have hx0 := (Blk.new w 95 #[.int .i64 0, .int .i64 0, .int .i64 0, .int .i64 0]).alloc (.cells #[.int .u64 0, .int .u64 0, .int .u64 0, .int .u64 0] 112)
  have hA0 := Blk.new_at (k := w.heap.size + 1) (w.alloc (.cells #[.int .i64 0, .int .i64 0, .int .i64 0, .int .i64 0] 95)) 112 #[.int .u64 0, .int .u64 0, .int .u64 0, .int .u64 0] (by simp)
  have ht0 := ((Turned.refl (fun _ => False) w).alloc (.cells #[.int .i64 0, .int .i64 0, .int .i64 0, .int .i64 0] 95)).alloc (.cells #[.int .u64 0, .int .u64 0, .int .u64 0, .int .u64 0] 112)
  have hr0 := hr'.out.turned ht0 (fun e => e)
  generalize (w.alloc (.cells #[.int .i64 0, .int .i64 0, .int .i64 0, .int .i64 0] 95)).alloc (.cells #[.int .u64 0, .int .u64 0, .int .u64 0, .int .u64 0] 112) = w2 at *
  generalize hga : w.heap.size + 1 = ga at *
  have hx0' := Lib.hid hx0
  have hA0' := Lib.hid hA0
  have hr0' := Lib.hid hr0
  have hga' := Lib.hid hga
  clear hx0 hA0 hr0 hga
  go_loopw [7] (fun i wr => OfRel ga zs w2 i wr) (fun i _ => 32 - (intOf i).toNat)
  case atStart => exact ⟨0, by omega, rfl, hA0'.out, Turned.refl _ _⟩
  case round =>
    obtain ⟨k, hk, rfl, hBk, hTk⟩ := hrel
    clear hA0'
    by_cases hlt2 : k < 32
    · have hki : (k : Int) < 32 := by omega
      have hgne : g ≠ ga := by have := hga'.out; omega
      have qb := (hr0'.out.turned hTk (fun e => hgne e)).cell (i := 8 + k) (by omega)
      have hcb : isByte (zs.getD (8 + k) 0) := by
        rw [List.getD_eq_getElem?_getD, List.getElem?_eq_getElem (by rw [hsec'.out.len]; omega)]
        exact hsec'.out.byte _ (List.getElem_mem _)
      unfold isByte at hcb
      obtain ⟨q0, q1, q2, q3⟩ := m4_cells hBk
      have hf := hBk.frozen
      rcases (show k / 8 = 0 ∨ k / 8 = 1 ∨ k / 8 = 2 ∨ k / 8 = 3 by omega) with hq | hq | hq | hq
      · have hqi : (k : Int) / 8 = 0 := by omega
        have qq := q0
        have hB4 := Lib.hid (show Blk (wr.setCell ⟨ga, 0, none⟩ (.int .u64 (IntKind.u64.wrap (256 * udecAt zs k 0 + zs.getD (8 + k) 0)))) ga 112 (udecCells zs (k + 1)) by
          have := hBk.set_ 0 (.int .u64 (IntKind.u64.wrap (256 * udecAt zs k 0 + zs.getD (8 + k) 0)))
          unfold udecCells
          rw [udecAt_miss zs k 1 (by omega)]
          rw [udecAt_miss zs k 2 (by omega)]
          rw [udecAt_miss zs k 3 (by omega)]
          rw [udecAt_hit zs k 0 (by rw [hsec'.out.len]; omega) hq hlt2]
          exact this)
        have hvr := udec_range ((zs.drop (8 + 8 * 0)).take (min 8 (k - 8 * 0)))
        rw [show udec ((zs.drop (8 + 8 * 0)).take (min 8 (k - 8 * 0))) = udecAt zs k 0 from rfl] at hvr
        generalize hv : udecAt zs k 0 = v at *
        generalize hc : zs.getD (8 + k) 0 = c at *
        have htwo := Lib.hid (u64_two v c)
        have hqn : k / 8 = 0 := hq
        have hwq : IntKind.i64.wrap 0 = 0 := by decide
        have hw8 : IntKind.i64.wrap (8 + (k : Int)) = 8 + (k : Int) := IntWalk.i64_in _ (by omega)
        have h8n : ((8 : Int) + (k : Int)).toNat = 8 + k := by omega
        have h80 : (0 : Int) ≤ 8 + (k : Int) := by omega
        have h81 : (8 : Int) + (k : Int) < 512 := by omega
        clear hv hc hBk hq q0 q1 q2 q3
        go_wp2
        refine wp_region_still_tail 15 mixed (by kernel_rfl) ?_
        simp only [List.take_succ_cons, List.take_zero, List.drop_succ_cons, List.drop_zero]
        change wpStill _ _ wr.drew (fun a' => wpList _ _ _ _ a' wr.drew) _ _
        iterate 15 still_step
        refine wpStill_nil ?_
        clear hw8 h8n h80 h81 hwq
        have hTn : Turned (· = ga) w2 (wr.setCell ⟨ga, 0, none⟩ (.int .u64 (IntKind.u64.wrap (256 * v + c)))).drew := (hTk.setCell (.inl rfl) _).drew
        have hB5 := Lib.hid (show Blk (wr.setCell ⟨ga, 0, none⟩ (.int .u64 (IntKind.u64.wrap (256 * v + c)))).drew ga 112 (udecCells zs (k + 1)) from hB4.out)
        go_wp2
        rw [htwo.out]
        have hRel : OfRel ga zs w2 (.int .i64 ((k + 1 : Nat) : Int)) (wr.setCell ⟨ga, 0, none⟩ (.int .u64 (IntKind.u64.wrap (256 * v + c)))).drew := ⟨k + 1, by omega, rfl, hB5.out, hTn⟩
        have hz : Value.int .i64 ((k : Int) + 1) = .int .i64 ((k + 1 : Nat) : Int) := by go_num
        exact ⟨by rw [hz]; exact hRel, by simp [intOf]; omega⟩
      · have hqi : (k : Int) / 8 = 1 := by omega
        have qq := q1
        have hB4 := Lib.hid (show Blk (wr.setCell ⟨ga, 1, none⟩ (.int .u64 (IntKind.u64.wrap (256 * udecAt zs k 1 + zs.getD (8 + k) 0)))) ga 112 (udecCells zs (k + 1)) by
          have := hBk.set_ 1 (.int .u64 (IntKind.u64.wrap (256 * udecAt zs k 1 + zs.getD (8 + k) 0)))
          unfold udecCells
          rw [udecAt_miss zs k 0 (by omega)]
          rw [udecAt_miss zs k 2 (by omega)]
          rw [udecAt_miss zs k 3 (by omega)]
          rw [udecAt_hit zs k 1 (by rw [hsec'.out.len]; omega) hq hlt2]
          exact this)
        have hvr := udec_range ((zs.drop (8 + 8 * 1)).take (min 8 (k - 8 * 1)))
        rw [show udec ((zs.drop (8 + 8 * 1)).take (min 8 (k - 8 * 1))) = udecAt zs k 1 from rfl] at hvr
        generalize hv : udecAt zs k 1 = v at *
        generalize hc : zs.getD (8 + k) 0 = c at *
        have htwo := Lib.hid (u64_two v c)
        have hqn : k / 8 = 1 := hq
        have hwq : IntKind.i64.wrap 1 = 1 := by decide
        have hw8 : IntKind.i64.wrap (8 + (k : Int)) = 8 + (k : Int) := IntWalk.i64_in _ (by omega)
        have h8n : ((8 : Int) + (k : Int)).toNat = 8 + k := by omega
        have h80 : (0 : Int) ≤ 8 + (k : Int) := by omega
        have h81 : (8 : Int) + (k : Int) < 512 := by omega
        clear hv hc hBk hq q0 q1 q2 q3
        go_wp2
        refine wp_region_still_tail 15 mixed (by kernel_rfl) ?_
        simp only [List.take_succ_cons, List.take_zero, List.drop_succ_cons, List.drop_zero]
        change wpStill _ _ wr.drew (fun a' => wpList _ _ _ _ a' wr.drew) _ _
        iterate 15 still_step
        refine wpStill_nil ?_
        clear hw8 h8n h80 h81 hwq
        have hTn : Turned (· = ga) w2 (wr.setCell ⟨ga, 1, none⟩ (.int .u64 (IntKind.u64.wrap (256 * v + c)))).drew := (hTk.setCell (.inl rfl) _).drew
        have hB5 := Lib.hid (show Blk (wr.setCell ⟨ga, 1, none⟩ (.int .u64 (IntKind.u64.wrap (256 * v + c)))).drew ga 112 (udecCells zs (k + 1)) from hB4.out)
        go_wp2
        rw [htwo.out]
        have hRel : OfRel ga zs w2 (.int .i64 ((k + 1 : Nat) : Int)) (wr.setCell ⟨ga, 1, none⟩ (.int .u64 (IntKind.u64.wrap (256 * v + c)))).drew := ⟨k + 1, by omega, rfl, hB5.out, hTn⟩
        have hz : Value.int .i64 ((k : Int) + 1) = .int .i64 ((k + 1 : Nat) : Int) := by go_num
        exact ⟨by rw [hz]; exact hRel, by simp [intOf]; omega⟩
      · have hqi : (k : Int) / 8 = 2 := by omega
        have qq := q2
        have hB4 := Lib.hid (show Blk (wr.setCell ⟨ga, 2, none⟩ (.int .u64 (IntKind.u64.wrap (256 * udecAt zs k 2 + zs.getD (8 + k) 0)))) ga 112 (udecCells zs (k + 1)) by
          have := hBk.set_ 2 (.int .u64 (IntKind.u64.wrap (256 * udecAt zs k 2 + zs.getD (8 + k) 0)))
          unfold udecCells
          rw [udecAt_miss zs k 0 (by omega)]
          rw [udecAt_miss zs k 1 (by omega)]
          rw [udecAt_miss zs k 3 (by omega)]
          rw [udecAt_hit zs k 2 (by rw [hsec'.out.len]; omega) hq hlt2]
          exact this)
        have hvr := udec_range ((zs.drop (8 + 8 * 2)).take (min 8 (k - 8 * 2)))
        rw [show udec ((zs.drop (8 + 8 * 2)).take (min 8 (k - 8 * 2))) = udecAt zs k 2 from rfl] at hvr
        generalize hv : udecAt zs k 2 = v at *
        generalize hc : zs.getD (8 + k) 0 = c at *
        have htwo := Lib.hid (u64_two v c)
        have hqn : k / 8 = 2 := hq
        have hwq : IntKind.i64.wrap 2 = 2 := by decide
        have hw8 : IntKind.i64.wrap (8 + (k : Int)) = 8 + (k : Int) := IntWalk.i64_in _ (by omega)
        have h8n : ((8 : Int) + (k : Int)).toNat = 8 + k := by omega
        have h80 : (0 : Int) ≤ 8 + (k : Int) := by omega
        have h81 : (8 : Int) + (k : Int) < 512 := by omega
        clear hv hc hBk hq q0 q1 q2 q3
        go_wp2
        refine wp_region_still_tail 15 mixed (by kernel_rfl) ?_
        simp only [List.take_succ_cons, List.take_zero, List.drop_succ_cons, List.drop_zero]
        change wpStill _ _ wr.drew (fun a' => wpList _ _ _ _ a' wr.drew) _ _
        iterate 15 still_step
        refine wpStill_nil ?_
        clear hw8 h8n h80 h81 hwq
        have hTn : Turned (· = ga) w2 (wr.setCell ⟨ga, 2, none⟩ (.int .u64 (IntKind.u64.wrap (256 * v + c)))).drew := (hTk.setCell (.inl rfl) _).drew
        have hB5 := Lib.hid (show Blk (wr.setCell ⟨ga, 2, none⟩ (.int .u64 (IntKind.u64.wrap (256 * v + c)))).drew ga 112 (udecCells zs (k + 1)) from hB4.out)
        go_wp2
        rw [htwo.out]
        have hRel : OfRel ga zs w2 (.int .i64 ((k + 1 : Nat) : Int)) (wr.setCell ⟨ga, 2, none⟩ (.int .u64 (IntKind.u64.wrap (256 * v + c)))).drew := ⟨k + 1, by omega, rfl, hB5.out, hTn⟩
        have hz : Value.int .i64 ((k : Int) + 1) = .int .i64 ((k + 1 : Nat) : Int) := by go_num
        exact ⟨by rw [hz]; exact hRel, by simp [intOf]; omega⟩
      · have hqi : (k : Int) / 8 = 3 := by omega
        have qq := q3
        have hB4 := Lib.hid (show Blk (wr.setCell ⟨ga, 3, none⟩ (.int .u64 (IntKind.u64.wrap (256 * udecAt zs k 3 + zs.getD (8 + k) 0)))) ga 112 (udecCells zs (k + 1)) by
          have := hBk.set_ 3 (.int .u64 (IntKind.u64.wrap (256 * udecAt zs k 3 + zs.getD (8 + k) 0)))
          unfold udecCells
          rw [udecAt_miss zs k 0 (by omega)]
          rw [udecAt_miss zs k 1 (by omega)]
          rw [udecAt_miss zs k 2 (by omega)]
          rw [udecAt_hit zs k 3 (by rw [hsec'.out.len]; omega) hq hlt2]
          exact this)
        have hvr := udec_range ((zs.drop (8 + 8 * 3)).take (min 8 (k - 8 * 3)))
        rw [show udec ((zs.drop (8 + 8 * 3)).take (min 8 (k - 8 * 3))) = udecAt zs k 3 from rfl] at hvr
        generalize hv : udecAt zs k 3 = v at *
        generalize hc : zs.getD (8 + k) 0 = c at *
        have htwo := Lib.hid (u64_two v c)
        have hqn : k / 8 = 3 := hq
        have hwq : IntKind.i64.wrap 3 = 3 := by decide
        have hw8 : IntKind.i64.wrap (8 + (k : Int)) = 8 + (k : Int) := IntWalk.i64_in _ (by omega)
        have h8n : ((8 : Int) + (k : Int)).toNat = 8 + k := by omega
        have h80 : (0 : Int) ≤ 8 + (k : Int) := by omega
        have h81 : (8 : Int) + (k : Int) < 512 := by omega
        clear hv hc hBk hq q0 q1 q2 q3
        go_wp2
        refine wp_region_still_tail 15 mixed (by kernel_rfl) ?_
        simp only [List.take_succ_cons, List.take_zero, List.drop_succ_cons, List.drop_zero]
        change wpStill _ _ wr.drew (fun a' => wpList _ _ _ _ a' wr.drew) _ _
        iterate 15 still_step
        refine wpStill_nil ?_
        clear hw8 h8n h80 h81 hwq
        have hTn : Turned (· = ga) w2 (wr.setCell ⟨ga, 3, none⟩ (.int .u64 (IntKind.u64.wrap (256 * v + c)))).drew := (hTk.setCell (.inl rfl) _).drew
        have hB5 := Lib.hid (show Blk (wr.setCell ⟨ga, 3, none⟩ (.int .u64 (IntKind.u64.wrap (256 * v + c)))).drew ga 112 (udecCells zs (k + 1)) from hB4.out)
        go_wp2
        rw [htwo.out]
        have hRel : OfRel ga zs w2 (.int .i64 ((k + 1 : Nat) : Int)) (wr.setCell ⟨ga, 3, none⟩ (.int .u64 (IntKind.u64.wrap (256 * v + c)))).drew := ⟨k + 1, by omega, rfl, hB5.out, hTn⟩
        have hz : Value.int .i64 ((k : Int) + 1) = .int .i64 ((k + 1 : Nat) : Int) := by go_num
        exact ⟨by rw [hz]; exact hRel, by simp [intOf]; omega⟩
    · have hk32 : k = 32 := by omega
      subst hk32
      obtain ⟨q0, q1, q2, q3⟩ := m4_cells hBk
      have hgne : g ≠ ga := by have := hga'.out; omega
      have hT4 : Turned (fun _ => False) w wr := ht0.trans hTk (fun _ e => e) (fun i e => by have e' : i = ga := e; have := hga'.out; exact .inr (by omega))
      have hr4' := Lib.hid (hr'.out.turned hT4 (fun e => e))
      have hx4' := Lib.hid (hx0'.out.turned hTk (fun e => by have e' : w.heap.size = ga := e; have := hga'.out; omega))
      have d0 := udecAt_dec zs 32 0
      have d1 := udecAt_dec zs 32 1
      have d2 := udecAt_dec zs 32 2
      have d3 := udecAt_dec zs 32 3
      have hok := Lib.hid (M4.of_ok zs)
      have hoe' := Lib.hid (show M4.of zs = ⟨decAt zs 32 0, decAt zs 32 1, decAt zs 32 2, decAt zs 32 3⟩ from rfl)
      clear hBk hTk ht0 hr0'
      generalize decAt zs 32 0 = n0 at *
      generalize decAt zs 32 1 = n1 at *
      generalize decAt zs 32 2 = n2 at *
      generalize decAt zs 32 3 = n3 at *
      generalize udecAt zs 32 0 = v0 at *
      generalize udecAt zs 32 1 = v1 at *
      generalize udecAt zs 32 2 = v2 at *
      generalize udecAt zs 32 3 = v3 at *
      have hx5 := Lib.hid (Blk.new wr 95 #[.int .i64 n0, .int .i64 n1, .int .i64 n2, .int .i64 n3])
      have hr5 := Lib.hid (hr4'.out.turned ((Turned.refl (fun _ => False) wr).alloc (.cells #[.int .i64 n0, .int .i64 n1, .int .i64 n2, .int .i64 n3] 95)) (fun e => e))
      have hx05 := Lib.hid (hx4'.out.turned ((Turned.refl (fun _ => False) wr).alloc (.cells #[.int .i64 n0, .int .i64 n1, .int .i64 n2, .int .i64 n3] 95)) (fun e => e))
      have hT5 := hT4.alloc (.cells #[.int .i64 n0, .int .i64 n1, .int .i64 n2, .int .i64 n3] 95)
      have hlt5 := Lib.hid (show w.heap.size < wr.heap.size from hx4'.out.lt)
      go_wp2_with fail
      clear q0 q1 q2 q3 d0 d1 d2 d3 hok
      generalize wr.alloc (.cells #[.int .i64 n0, .int .i64 n1, .int .i64 n2, .int .i64 n3] 95) = w5 at *
      generalize wr.heap.size = xb at *
      obtain ⟨x0, x1, x2, x3⟩ := m4_cells hx5.out
      have cz := (hr5.out.turned (Turned.refl (fun _ => False) w5).drew (fun e => e)).bytR.convert cap
      have hsq := Lib.hid (fun (ys : List Int) (hy : Sec ys) => strs_eq ys zs hy.byte hsec'.out.byte)
      have hcz := Lib.hid (fun (w6 : World) (h : Turned (fun _ => False) w5 w6) => ((hr5.out.turned h (fun e => e)).bytR.convert cap))
      generalize strOfNums zs = s2 at *
      cases hmay : (M4.of zs).may with
      | false =>
        have hno := Lib.hid (show ofOk zs at_ = false by unfold ofOk; rw [hmay]; simp)
        rw [hoe'.out] at hmay
        refine wp_region_segs (fun w' => (w'.cell? ⟨xb, 0, none⟩ = some (.int .i64 n0) ∧ w'.cell? ⟨xb, 1, none⟩ = some (.int .i64 n1) ∧ w'.cell? ⟨xb, 2, none⟩ = some (.int .i64 n2) ∧ w'.cell? ⟨xb, 3, none⟩ = some (.int .i64 n3)) ∧ (convert 35 9 (.slice (some ⟨g, 0, none⟩) 512 cap)).run Try.prog w' = .ok (.string s2) w') (segT [0] ++ segF [1] ++ segT [2, 3, 4, 5, 6, 7, 8, 9, 10, 11, 14, 15] ++ segF [12, 13] ++ segT [16, 17]) mixed (by kernel_rfl) (fun _ _ _ _ _ h => h) ?_
        simp only [segT, segF, pickSegs, List.map_cons, List.map_nil, List.cons_append, List.nil_append, List.filterMap_cons, List.filterMap_nil, List.getElem?_cons_zero, List.getElem?_cons_succ, Option.map_some]
        iterate 1 (refine wpSegs_take (v := ?_) ⟨⟨x0, x1, x2, x3⟩, cz⟩ rfl (fun w' hw => ?_) ?_; rotate_left; (obtain ⟨⟨hw0, hw1, hw2, hw3⟩, hwc⟩ := hw; go_simp; try with_reducible rfl); try simp only [Act.put, List.setIfInBounds_toArray, List.set_cons_zero, List.set_cons_succ])
        refine wpSegs_run rfl (fun K hK => ?_)
        go_simp
        refine (rmay_to ⟨n0, n1, n2, n3⟩ false w5.drew hmay).mono ?_
        rintro e w6 ⟨rfl, ht6'⟩
        have ht6 : Turned (fun _ => False) w5 w6 := ⟨ht6'.os, ht6'.tape, ht6'.output, ht6'.size, ht6'.block⟩
        obtain ⟨y0, y1, y2, y3⟩ := m4_cells (hx5.out.turned ht6 (fun e => e))
        have cz6 := hcz.out w6 ht6
        refine hK.out _ _ ⟨⟨y0, y1, y2, y3⟩, cz6⟩ ?_
        clear hK K
        iterate 2 (refine wpSegs_take (v := ?_) ⟨⟨y0, y1, y2, y3⟩, cz6⟩ rfl (fun w' hw => ?_) ?_; rotate_left; (obtain ⟨⟨hw0, hw1, hw2, hw3⟩, hwc⟩ := hw; go_simp; try with_reducible rfl); try simp only [Act.put, List.setIfInBounds_toArray, List.set_cons_zero, List.set_cons_succ])
        iterate 5 (refine wpSegs_skip ⟨⟨y0, y1, y2, y3⟩, cz6⟩ rfl ?_; try simp only [Act.put, List.setIfInBounds_toArray, List.set_cons_zero, List.set_cons_succ])
        iterate 2 (refine wpSegs_take (v := ?_) ⟨⟨y0, y1, y2, y3⟩, cz6⟩ rfl (fun w' hw => ?_) ?_; rotate_left; (obtain ⟨⟨hw0, hw1, hw2, hw3⟩, hwc⟩ := hw; go_simp; try with_reducible rfl); try simp only [Act.put, List.setIfInBounds_toArray, List.set_cons_zero, List.set_cons_succ])
        iterate 3 (refine wpSegs_skip ⟨⟨y0, y1, y2, y3⟩, cz6⟩ rfl ?_; try simp only [Act.put, List.setIfInBounds_toArray, List.set_cons_zero, List.set_cons_succ])
        iterate 2 (refine wpSegs_runSkip ⟨⟨y0, y1, y2, y3⟩, cz6⟩ rfl ?_; try simp only [Act.put, List.setIfInBounds_toArray, List.set_cons_zero, List.set_cons_succ])
        iterate 1 (refine wpSegs_skip ⟨⟨y0, y1, y2, y3⟩, cz6⟩ rfl ?_; try simp only [Act.put, List.setIfInBounds_toArray, List.set_cons_zero, List.set_cons_succ])
        iterate 1 (refine wpSegs_take (v := ?_) ⟨⟨y0, y1, y2, y3⟩, cz6⟩ rfl (fun w' hw => ?_) ?_; rotate_left; (obtain ⟨⟨hw0, hw1, hw2, hw3⟩, hwc⟩ := hw; go_simp; try with_reducible rfl); try simp only [Act.put, List.setIfInBounds_toArray, List.set_cons_zero, List.set_cons_succ])
        refine wpSegs_nil ?_
        obtain ⟨wE, hwE⟩ : ∃ wE : World, wE = w6 := ⟨_, rfl⟩
        subst hwE
        have htE := ht6
        have hx6 := hx05.out.turned htE (fun e => e)
        obtain ⟨z0, z1, z2, z3⟩ := m4_cells hx6
        have hf := hx6.frozen
        have hFin := Lib.hid ((((hx6.set_ 0 (.int .i64 0)).set_ 1 (.int .i64 0)).set_ 2 (.int .i64 0)).set_ 3 (.int .i64 0))
        have hTE := hT5.trans (W := fun _ => False) htE (fun _ e => e) (fun _ e => e.elim)
        have hTf : Turned (fun _ => False) w ((((wE.setCell ⟨w.heap.size, 0, none⟩ (.int .i64 0)).setCell ⟨w.heap.size, 1, none⟩ (.int .i64 0)).setCell ⟨w.heap.size, 2, none⟩ (.int .i64 0)).setCell ⟨w.heap.size, 3, none⟩ (.int .i64 0)) := (((hTE.setCell (p := ⟨w.heap.size, 0, none⟩) (.inr (Nat.le_refl _)) _).setCell (p := ⟨w.heap.size, 1, none⟩) (.inr (Nat.le_refl _)) _).setCell (p := ⟨w.heap.size, 2, none⟩) (.inr (Nat.le_refl _)) _).setCell (p := ⟨w.heap.size, 3, none⟩) (.inr (Nat.le_refl _)) _
        clear hx6 hTE
        go_wp2_with fail
        clear z0 z1 z2 z3 hf
        generalize (((wE.setCell ⟨w.heap.size, 0, none⟩ (.int .i64 0)).setCell ⟨w.heap.size, 1, none⟩ (.int .i64 0)).setCell ⟨w.heap.size, 2, none⟩ (.int .i64 0)).setCell ⟨w.heap.size, 3, none⟩ (.int .i64 0) = wf at *
        obtain ⟨z0, z1, z2, z3⟩ := m4_cells hFin.out
        have hres : ofRes zs at_ = ⟨0, 0, 0, 0⟩ := by unfold ofRes; rw [hno.out]; rfl
        refine bodyPost_ret (v := .tuple #[.agg #[.int .i64 0, .int .i64 0, .int .i64 0, .int .i64 0], .bool false]) (by simp [results, Try.results73, go_sem, z0, z1, z2, z3]) rfl ?_
        unfold OfPost
        rw [hres, hno.out]
        exact ⟨rfl, hTf⟩
      | true =>
        have hpos : 1 ≤ n0 := by
          rw [hoe'.out] at hmay
          simp only [M4.may, inB, Bool.and_eq_true, decide_eq_true_eq] at hmay
          omega
        have hmay' := Lib.hid hmay
        rw [hoe'.out] at hmay
        have htm : n0.tmod 2 = n0 % 2 := Int.tmod_eq_emod_of_nonneg (by omega)
        by_cases hpar : n0 % 2 = at_
        · have hbq : (n0 % 2 != at_) = false := by rw [bne, beq_iff_eq.mpr hpar]; rfl
          have hpar' := Lib.hid hpar
          clear hpar
          refine wp_region_segs (fun w' => (w'.cell? ⟨xb, 0, none⟩ = some (.int .i64 n0) ∧ w'.cell? ⟨xb, 1, none⟩ = some (.int .i64 n1) ∧ w'.cell? ⟨xb, 2, none⟩ = some (.int .i64 n2) ∧ w'.cell? ⟨xb, 3, none⟩ = some (.int .i64 n3)) ∧ (convert 35 9 (.slice (some ⟨g, 0, none⟩) 512 cap)).run Try.prog w' = .ok (.string s2) w') (segT [0] ++ segF [1] ++ segT [2, 3, 4, 5, 6, 7, 8, 9, 10, 11, 14, 15] ++ segF [12, 13] ++ segT [16, 17]) mixed (by kernel_rfl) (fun _ _ _ _ _ h => h) ?_
          simp only [segT, segF, pickSegs, List.map_cons, List.map_nil, List.cons_append, List.nil_append, List.filterMap_cons, List.filterMap_nil, List.getElem?_cons_zero, List.getElem?_cons_succ, Option.map_some]
          iterate 1 (refine wpSegs_take (v := ?_) ⟨⟨x0, x1, x2, x3⟩, cz⟩ rfl (fun w' hw => ?_) ?_; rotate_left; (obtain ⟨⟨hw0, hw1, hw2, hw3⟩, hwc⟩ := hw; go_simp; try with_reducible rfl); try simp only [Act.put, List.setIfInBounds_toArray, List.set_cons_zero, List.set_cons_succ])
          refine wpSegs_run rfl (fun K hK => ?_)
          go_simp
          refine (rmay_to ⟨n0, n1, n2, n3⟩ true w5.drew hmay).mono ?_
          rintro e w6 ⟨rfl, ht6'⟩
          have ht6 : Turned (fun _ => False) w5 w6 := ⟨ht6'.os, ht6'.tape, ht6'.output, ht6'.size, ht6'.block⟩
          obtain ⟨y0, y1, y2, y3⟩ := m4_cells (hx5.out.turned ht6 (fun e => e))
          have cz6 := hcz.out w6 ht6
          refine hK.out _ _ ⟨⟨y0, y1, y2, y3⟩, cz6⟩ ?_
          clear hK K
          iterate 9 (refine wpSegs_take (v := ?_) ⟨⟨y0, y1, y2, y3⟩, cz6⟩ rfl (fun w' hw => ?_) ?_; rotate_left; (obtain ⟨⟨hw0, hw1, hw2, hw3⟩, hwc⟩ := hw; go_simp; try with_reducible rfl); try simp only [Act.put, List.setIfInBounds_toArray, List.set_cons_zero, List.set_cons_succ])
          iterate 3 (refine wpSegs_take (v := ?_) ⟨⟨y0, y1, y2, y3⟩, cz6⟩ rfl (fun w' hw => ?_) ?_; rotate_left; (obtain ⟨⟨hw0, hw1, hw2, hw3⟩, hwc⟩ := hw; go_simp; try with_reducible rfl); try simp only [Act.put, List.setIfInBounds_toArray, List.set_cons_zero, List.set_cons_succ])
          refine wpSegs_run rfl (fun K hK => ?_)
          go_simp
          refine (rbytes_any ⟨n0, n1, n2, n3⟩ (hoe'.out ▸ M4.of_ok zs) w6).mono ?_
          rintro e w7 ⟨g7, cap7, rfl, hr7, hg7, ht7⟩
          have hx7 := hx5.out.turned (ht6.trans (W := fun _ => False) ht7 (fun _ e => e) (fun _ e => e.elim)) (fun e => e)
          have cz7 := hcz.out w7 (ht6.trans (W := fun _ => False) ht7 (fun _ e => e) (fun _ e => e.elim))
          have cz8 := hr7.bytR.convert cap7
          have hsq7 := hsq.out _ (mBytes_sec (M4.mk n0 n1 n2 n3).list rfl)
          generalize strOfNums (mBytes (M4.mk n0 n1 n2 n3).list) = s1 at *
          obtain ⟨y0, y1, y2, y3⟩ := m4_cells hx7
          refine hK.out _ _ ⟨⟨y0, y1, y2, y3⟩, cz7⟩ ?_
          clear hK K
          refine wpSegs_run rfl (fun K hK => ?_)
          go_simp
          refine hK.out _ _ ⟨⟨y0, y1, y2, y3⟩, cz7⟩ ?_
          clear hK K
          obtain ⟨wE, hwE⟩ : ∃ wE : World, wE = w7 := ⟨_, rfl⟩
          subst hwE
          have htE := ht6.trans (W := fun _ => False) ht7 (fun _ e => e) (fun _ e => e.elim)
          by_cases heq : mBytes (M4.mk n0 n1 n2 n3).list = zs
          · have hs7 : (s1.toList == s2.toList) = true := by rw [hsq7]; exact decide_eq_true heq
            have hno := Lib.hid (show ofOk zs at_ = true by
              unfold ofOk
              rw [hmay'.out, hoe'.out]
              simp only [Bool.true_and, Bool.and_eq_true, decide_eq_true_eq]
              exact ⟨hpar'.out, heq⟩)
            clear heq hsq7
            have hoe2 := Lib.hid hoe'.out
            iterate 2 (refine wpSegs_take (v := ?_) ⟨⟨y0, y1, y2, y3⟩, cz7⟩ rfl (fun w' hw => ?_) ?_; rotate_left; (obtain ⟨⟨hw0, hw1, hw2, hw3⟩, hwc⟩ := hw; go_simp; try with_reducible rfl); try simp only [Act.put, List.setIfInBounds_toArray, List.set_cons_zero, List.set_cons_succ])
            refine wpSegs_nil ?_
            have hx6 := hx05.out.turned htE (fun e => e)
            obtain ⟨z0, z1, z2, z3⟩ := m4_cells hx6
            have hf := hx6.frozen
            have hFin := Lib.hid ((((hx6.set_ 0 (.int .i64 n0)).set_ 1 (.int .i64 n1)).set_ 2 (.int .i64 n2)).set_ 3 (.int .i64 n3))
            have hTE := hT5.trans (W := fun _ => False) htE (fun _ e => e) (fun _ e => e.elim)
            have hTf : Turned (fun _ => False) w ((((wE.setCell ⟨w.heap.size, 0, none⟩ (.int .i64 n0)).setCell ⟨w.heap.size, 1, none⟩ (.int .i64 n1)).setCell ⟨w.heap.size, 2, none⟩ (.int .i64 n2)).setCell ⟨w.heap.size, 3, none⟩ (.int .i64 n3)) := (((hTE.setCell (p := ⟨w.heap.size, 0, none⟩) (.inr (Nat.le_refl _)) _).setCell (p := ⟨w.heap.size, 1, none⟩) (.inr (Nat.le_refl _)) _).setCell (p := ⟨w.heap.size, 2, none⟩) (.inr (Nat.le_refl _)) _).setCell (p := ⟨w.heap.size, 3, none⟩) (.inr (Nat.le_refl _)) _
            clear hx6 hTE
            go_wp2_with fail
            clear z0 z1 z2 z3 hf
            generalize (((wE.setCell ⟨w.heap.size, 0, none⟩ (.int .i64 n0)).setCell ⟨w.heap.size, 1, none⟩ (.int .i64 n1)).setCell ⟨w.heap.size, 2, none⟩ (.int .i64 n2)).setCell ⟨w.heap.size, 3, none⟩ (.int .i64 n3) = wf at *
            obtain ⟨z0, z1, z2, z3⟩ := m4_cells hFin.out
            have hres : ofRes zs at_ = ⟨n0, n1, n2, n3⟩ := by unfold ofRes; rw [hno.out, hoe2.out]; rfl
            refine bodyPost_ret (v := .tuple #[.agg #[.int .i64 n0, .int .i64 n1, .int .i64 n2, .int .i64 n3], .bool true]) (by simp [results, Try.results73, go_sem, z0, z1, z2, z3]) rfl ?_
            unfold OfPost
            rw [hres, hno.out]
            exact ⟨rfl, hTf⟩
          · have hs7 : (s1.toList == s2.toList) = false := by rw [hsq7]; exact decide_eq_false heq
            have hno := Lib.hid (show ofOk zs at_ = false by
              unfold ofOk
              rw [show decide (mBytes (M4.of zs).list = zs) = false by rw [hoe'.out]; exact decide_eq_false heq]
              simp)
            clear heq hsq7
            iterate 2 (refine wpSegs_take (v := ?_) ⟨⟨y0, y1, y2, y3⟩, cz7⟩ rfl (fun w' hw => ?_) ?_; rotate_left; (obtain ⟨⟨hw0, hw1, hw2, hw3⟩, hwc⟩ := hw; go_simp; try with_reducible rfl); try simp only [Act.put, List.setIfInBounds_toArray, List.set_cons_zero, List.set_cons_succ])
            refine wpSegs_nil ?_
            have hx6 := hx05.out.turned htE (fun e => e)
            obtain ⟨z0, z1, z2, z3⟩ := m4_cells hx6
            have hf := hx6.frozen
            have hFin := Lib.hid ((((hx6.set_ 0 (.int .i64 0)).set_ 1 (.int .i64 0)).set_ 2 (.int .i64 0)).set_ 3 (.int .i64 0))
            have hTE := hT5.trans (W := fun _ => False) htE (fun _ e => e) (fun _ e => e.elim)
            have hTf : Turned (fun _ => False) w ((((wE.setCell ⟨w.heap.size, 0, none⟩ (.int .i64 0)).setCell ⟨w.heap.size, 1, none⟩ (.int .i64 0)).setCell ⟨w.heap.size, 2, none⟩ (.int .i64 0)).setCell ⟨w.heap.size, 3, none⟩ (.int .i64 0)) := (((hTE.setCell (p := ⟨w.heap.size, 0, none⟩) (.inr (Nat.le_refl _)) _).setCell (p := ⟨w.heap.size, 1, none⟩) (.inr (Nat.le_refl _)) _).setCell (p := ⟨w.heap.size, 2, none⟩) (.inr (Nat.le_refl _)) _).setCell (p := ⟨w.heap.size, 3, none⟩) (.inr (Nat.le_refl _)) _
            clear hx6 hTE
            go_wp2_with fail
            clear z0 z1 z2 z3 hf
            generalize (((wE.setCell ⟨w.heap.size, 0, none⟩ (.int .i64 0)).setCell ⟨w.heap.size, 1, none⟩ (.int .i64 0)).setCell ⟨w.heap.size, 2, none⟩ (.int .i64 0)).setCell ⟨w.heap.size, 3, none⟩ (.int .i64 0) = wf at *
            obtain ⟨z0, z1, z2, z3⟩ := m4_cells hFin.out
            have hres : ofRes zs at_ = ⟨0, 0, 0, 0⟩ := by unfold ofRes; rw [hno.out]; rfl
            refine bodyPost_ret (v := .tuple #[.agg #[.int .i64 0, .int .i64 0, .int .i64 0, .int .i64 0], .bool false]) (by simp [results, Try.results73, go_sem, z0, z1, z2, z3]) rfl ?_
            unfold OfPost
            rw [hres, hno.out]
            exact ⟨rfl, hTf⟩
        · have hno := Lib.hid (show ofOk zs at_ = false by unfold ofOk; rw [show decide ((M4.of zs).seq % 2 = at_) = false by rw [hoe'.out]; exact decide_eq_false hpar]; simp)
          have hbq : (n0 % 2 != at_) = true := by rw [bne_iff_ne]; exact hpar
          clear hpar
          refine wp_region_segs (fun w' => (w'.cell? ⟨xb, 0, none⟩ = some (.int .i64 n0) ∧ w'.cell? ⟨xb, 1, none⟩ = some (.int .i64 n1) ∧ w'.cell? ⟨xb, 2, none⟩ = some (.int .i64 n2) ∧ w'.cell? ⟨xb, 3, none⟩ = some (.int .i64 n3)) ∧ (convert 35 9 (.slice (some ⟨g, 0, none⟩) 512 cap)).run Try.prog w' = .ok (.string s2) w') (segT [0] ++ segF [1] ++ segT [2, 3, 4, 5, 6, 7, 8, 9, 10, 11, 14, 15] ++ segF [12, 13] ++ segT [16, 17]) mixed (by kernel_rfl) (fun _ _ _ _ _ h => h) ?_
          simp only [segT, segF, pickSegs, List.map_cons, List.map_nil, List.cons_append, List.nil_append, List.filterMap_cons, List.filterMap_nil, List.getElem?_cons_zero, List.getElem?_cons_succ, Option.map_some]
          iterate 1 (refine wpSegs_take (v := ?_) ⟨⟨x0, x1, x2, x3⟩, cz⟩ rfl (fun w' hw => ?_) ?_; rotate_left; (obtain ⟨⟨hw0, hw1, hw2, hw3⟩, hwc⟩ := hw; go_simp; try with_reducible rfl); try simp only [Act.put, List.setIfInBounds_toArray, List.set_cons_zero, List.set_cons_succ])
          refine wpSegs_run rfl (fun K hK => ?_)
          go_simp
          refine (rmay_to ⟨n0, n1, n2, n3⟩ true w5.drew hmay).mono ?_
          rintro e w6 ⟨rfl, ht6'⟩
          have ht6 : Turned (fun _ => False) w5 w6 := ⟨ht6'.os, ht6'.tape, ht6'.output, ht6'.size, ht6'.block⟩
          obtain ⟨y0, y1, y2, y3⟩ := m4_cells (hx5.out.turned ht6 (fun e => e))
          have cz6 := hcz.out w6 ht6
          refine hK.out _ _ ⟨⟨y0, y1, y2, y3⟩, cz6⟩ ?_
          clear hK K
          iterate 9 (refine wpSegs_take (v := ?_) ⟨⟨y0, y1, y2, y3⟩, cz6⟩ rfl (fun w' hw => ?_) ?_; rotate_left; (obtain ⟨⟨hw0, hw1, hw2, hw3⟩, hwc⟩ := hw; go_simp; try with_reducible rfl); try simp only [Act.put, List.setIfInBounds_toArray, List.set_cons_zero, List.set_cons_succ])
          iterate 3 (refine wpSegs_skip ⟨⟨y0, y1, y2, y3⟩, cz6⟩ rfl ?_; try simp only [Act.put, List.setIfInBounds_toArray, List.set_cons_zero, List.set_cons_succ])
          iterate 2 (refine wpSegs_runSkip ⟨⟨y0, y1, y2, y3⟩, cz6⟩ rfl ?_; try simp only [Act.put, List.setIfInBounds_toArray, List.set_cons_zero, List.set_cons_succ])
          iterate 1 (refine wpSegs_skip ⟨⟨y0, y1, y2, y3⟩, cz6⟩ rfl ?_; try simp only [Act.put, List.setIfInBounds_toArray, List.set_cons_zero, List.set_cons_succ])
          iterate 1 (refine wpSegs_take (v := ?_) ⟨⟨y0, y1, y2, y3⟩, cz6⟩ rfl (fun w' hw => ?_) ?_; rotate_left; (obtain ⟨⟨hw0, hw1, hw2, hw3⟩, hwc⟩ := hw; go_simp; try with_reducible rfl); try simp only [Act.put, List.setIfInBounds_toArray, List.set_cons_zero, List.set_cons_succ])
          refine wpSegs_nil ?_
          obtain ⟨wE, hwE⟩ : ∃ wE : World, wE = w6 := ⟨_, rfl⟩
          subst hwE
          have htE := ht6
          have hx6 := hx05.out.turned htE (fun e => e)
          obtain ⟨z0, z1, z2, z3⟩ := m4_cells hx6
          have hf := hx6.frozen
          have hFin := Lib.hid ((((hx6.set_ 0 (.int .i64 0)).set_ 1 (.int .i64 0)).set_ 2 (.int .i64 0)).set_ 3 (.int .i64 0))
          have hTE := hT5.trans (W := fun _ => False) htE (fun _ e => e) (fun _ e => e.elim)
          have hTf : Turned (fun _ => False) w ((((wE.setCell ⟨w.heap.size, 0, none⟩ (.int .i64 0)).setCell ⟨w.heap.size, 1, none⟩ (.int .i64 0)).setCell ⟨w.heap.size, 2, none⟩ (.int .i64 0)).setCell ⟨w.heap.size, 3, none⟩ (.int .i64 0)) := (((hTE.setCell (p := ⟨w.heap.size, 0, none⟩) (.inr (Nat.le_refl _)) _).setCell (p := ⟨w.heap.size, 1, none⟩) (.inr (Nat.le_refl _)) _).setCell (p := ⟨w.heap.size, 2, none⟩) (.inr (Nat.le_refl _)) _).setCell (p := ⟨w.heap.size, 3, none⟩) (.inr (Nat.le_refl _)) _
          clear hx6 hTE
          go_wp2_with fail
          clear z0 z1 z2 z3 hf
          generalize (((wE.setCell ⟨w.heap.size, 0, none⟩ (.int .i64 0)).setCell ⟨w.heap.size, 1, none⟩ (.int .i64 0)).setCell ⟨w.heap.size, 2, none⟩ (.int .i64 0)).setCell ⟨w.heap.size, 3, none⟩ (.int .i64 0) = wf at *
          obtain ⟨z0, z1, z2, z3⟩ := m4_cells hFin.out
          have hres : ofRes zs at_ = ⟨0, 0, 0, 0⟩ := by unfold ofRes; rw [hno.out]; rfl
          refine bodyPost_ret (v := .tuple #[.agg #[.int .i64 0, .int .i64 0, .int .i64 0, .int .i64 0], .bool false]) (by simp [results, Try.results73, go_sem, z0, z1, z2, z3]) rfl ?_
          unfold OfPost
          rw [hres, hno.out]
          exact ⟨rfl, hTf⟩
end Go.Proofs.Ytobjoafhhchjgaa
