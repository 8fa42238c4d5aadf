/-
  Masters: what may be one, its bytes, where all stands; Write.
-/
import Derived.Test.YtobjoafhhchjgaaMrkA
namespace Go.Proofs.Ytobjoafhhchjgaa
open Go.RowKit Go.Maps

/-- A master. -/
structure M4 where
  seq : Int
  turn : Int
  old : Int
  mark : Int
def M4.list (m : M4) : List Int := [m.seq, m.turn, m.old, m.mark]
structure M4.Ok (m : M4) : Prop where
  b0 : -9223372036854775808 ≤ m.seq ∧ m.seq ≤ 9223372036854775807
  b1 : -9223372036854775808 ≤ m.turn ∧ m.turn ≤ 9223372036854775807
  b2 : -9223372036854775808 ≤ m.old ∧ m.old ≤ 9223372036854775807
  b3 : -9223372036854775808 ≤ m.mark ∧ m.mark ≤ 9223372036854775807
def inB (n a b : Int) : Bool := decide (a ≤ n) && decide (n ≤ b)
def M4.may (m : M4) : Bool := inB m.seq 1 2305843009213693952 && inB m.turn 1 2147483647 && inB m.old 1 1152921504606846976 && inB m.mark 0 1152921504606846976

theorem within_to (n a b : Int) (r : Bool) (w : World) (h : inB n a b = r) : Calls Try.prog 70 #[.int .i64 n, .int .i64 a, .int .i64 b] w (RetSame (.bool r) w) := by
  subst h
  unfold inB
  by_cases h1 : a ≤ n
  · have h1' : decide (a ≤ n) = true := by simpa using h1
    go_enter Try.func70, Try.ntmps70
    go_wp2
    go_ret
    exact ⟨ret_bool (by simp [h1]), rfl⟩
  · have h1' : decide (a ≤ n) = false := by simpa using h1
    go_enter Try.func70, Try.ntmps70
    go_wp2
    go_ret
    exact ⟨ret_bool (by simp), rfl⟩
theorem may_to (m : M4) (r : Bool) (w : World) (h : m.may = r) : Calls Try.prog 59 #[.agg #[.int .i64 m.seq, .int .i64 m.turn, .int .i64 m.old, .int .i64 m.mark]] w (RetNew (.bool r) w) := by
  subst h
  unfold M4.may
  cases h1 : inB m.seq 1 2305843009213693952 with
  | false =>
    go_enter Try.func59, Try.ntmps59
    go_wp2_with fail
    refine (within_to _ _ _ _ _ h1).mono ?_
    rintro e w1 ⟨rfl, rfl⟩
    clear h1
    go_wp2_with fail
    go_ret
    exact ⟨rfl, (Turned.refl _ w).alloc _⟩
  | true =>
    cases h2 : inB m.turn 1 2147483647 with
    | false =>
      have H1 := Lib.hid h1
      clear h1
      go_enter Try.func59, Try.ntmps59
      go_wp2_with fail
      refine (within_to _ _ _ _ _ H1.out).mono ?_
      rintro e w1 ⟨rfl, rfl⟩
      go_wp2_with fail
      refine (within_to _ _ _ _ _ h2).mono ?_
      rintro e w1 ⟨rfl, rfl⟩
      clear h2
      go_wp2_with fail
      go_ret
      exact ⟨rfl, (Turned.refl _ w).alloc _⟩
    | true =>
      cases h3 : inB m.old 1 1152921504606846976 with
      | false =>
        have H1 := Lib.hid h1
        have H2 := Lib.hid h2
        clear h1 h2
        go_enter Try.func59, Try.ntmps59
        go_wp2_with fail
        refine (within_to _ _ _ _ _ H1.out).mono ?_
        rintro e w1 ⟨rfl, rfl⟩
        go_wp2_with fail
        refine (within_to _ _ _ _ _ H2.out).mono ?_
        rintro e w1 ⟨rfl, rfl⟩
        go_wp2_with fail
        refine (within_to _ _ _ _ _ h3).mono ?_
        rintro e w1 ⟨rfl, rfl⟩
        clear h3
        go_wp2_with fail
        go_ret
        exact ⟨rfl, (Turned.refl _ w).alloc _⟩
      | true =>
        have H1 := Lib.hid h1
        have H2 := Lib.hid h2
        have H3 := Lib.hid h3
        clear h1 h2 h3
        generalize h4 : inB m.mark 0 1152921504606846976 = r
        have H4 := Lib.hid h4
        clear h4
        go_enter Try.func59, Try.ntmps59
        go_wp2_with fail
        refine (within_to _ _ _ _ _ H1.out).mono ?_
        rintro e w1 ⟨rfl, rfl⟩
        go_wp2_with fail
        refine (within_to _ _ _ _ _ H2.out).mono ?_
        rintro e w1 ⟨rfl, rfl⟩
        go_wp2_with fail
        refine (within_to _ _ _ _ _ H3.out).mono ?_
        rintro e w1 ⟨rfl, rfl⟩
        go_wp2_with fail
        refine (within_to _ _ _ _ _ H4.out).mono ?_
        rintro e w1 ⟨rfl, rfl⟩
        go_wp2_with fail
        go_ret
        exact ⟨ret_bool (by simp), (Turned.refl _ w).alloc _⟩

theorem mbytes_any (m : M4) (hm : m.Ok) (w : World) : Calls Try.prog 61 #[.agg #[.int .i64 m.seq, .int .i64 m.turn, .int .i64 m.old, .int .i64 m.mark]] w (SecPost m.list w) := by
  obtain ⟨seq, turn, old, mark⟩ := m
  have hm' := Lib.hid hm
  clear hm
  go_enter Try.func61, Try.ntmps61
  go_wp2_with fail
  refine (sector_any _ _ [seq, turn, old, mark] _ ⟨rfl, by omega, ?_, fun _ => ⟨_, 0, rfl, fun j hj => ?_⟩⟩).mono ?_
  · intro z hz
    simp only [List.mem_cons, List.not_mem_nil, or_false] at hz
    rcases hz with rfl | rfl | rfl | rfl
    · exact hm'.out.b0
    · exact hm'.out.b1
    · exact hm'.out.b2
    · exact hm'.out.b3
  · have hb := Blk.new_at (k := w.heap.size + 1) (w.alloc (.cells #[.int .i64 seq, .int .i64 turn, .int .i64 old, .int .i64 mark] 59)) 2 #[.int .i64 seq, .int .i64 turn, .int .i64 old, .int .i64 mark] (by simp)
    rw [Nat.zero_add, hb.cell]
    match j, hj with
    | 0, _ => rfl
    | 1, _ => rfl
    | 2, _ => rfl
    | 3, _ => rfl
  rintro e w1 ⟨g, cap, rfl, hr, hg, ht⟩
  go_wp2_with fail
  go_ret
  exact ⟨g, cap, rfl, hr, by simp at hg; omega, (((Turned.refl (fun _ => False) w).alloc _).alloc _).trans ht (fun _ e => e) (fun _ e => e.elim)⟩

theorem big_nil (w : World) : Calls Try.prog 58 #[.pointer none] w (RetSame (.int .i64 1) w) := by
  go_enter Try.func58, Try.ntmps58
  go_wp2_with fail
  refine (sectors_nil _).mono ?_
  rintro e w1 ⟨rfl, rfl⟩
  go_wp2_with fail
  go_ret
  exact ⟨rfl, rfl⟩
theorem big_unmade (d : Nat) (w : World) (h0 : w.cell? ⟨d, 0, none⟩ = some (.int .i64 0)) : Calls Try.prog 58 #[.pointer (some ⟨d, 0, none⟩)] w (RetSame (.int .i64 1) w) := by
  go_enter Try.func58, Try.ntmps58
  go_wp2_with fail
  refine (sectors_any d 0 _ h0).mono ?_
  rintro e w1 ⟨rfl, rfl⟩
  go_wp2_with fail
  go_ret
  exact ⟨rfl, rfl⟩
def bigC (n : Int) : Int := if n < 40 then 2 else 0
theorem big_any (d : Nat) (n : Int) (w : World) (h0 : w.cell? ⟨d, 0, none⟩ = some (.int .i64 n)) (h1 : 1 ≤ n) : Calls Try.prog 58 #[.pointer (some ⟨d, 0, none⟩)] w (RetSame (.int .i64 (bigC n)) w) := by
  have hn0 : (n == 0) = false := by simp; omega
  unfold bigC
  by_cases h : n < 40
  · rw [if_pos h]
    go_enter Try.func58, Try.ntmps58
    go_wp2_with fail
    refine (sectors_any d n _ h0).mono ?_
    rintro e w1 ⟨rfl, rfl⟩
    go_wp2_with fail
    go_ret
    exact ⟨rfl, rfl⟩
  · rw [if_neg h]
    have h' : 40 ≤ n := by omega
    go_enter Try.func58, Try.ntmps58
    go_wp2_with fail
    refine (sectors_any d n _ h0).mono ?_
    rintro e w1 ⟨rfl, rfl⟩
    go_wp2_with fail
    go_ret
    exact ⟨rfl, rfl⟩

def placeC (n : Int) : Int := if n / 4 < 12 then 12 else n / 4
def Place4 (a b c d : Int) (w : World) (e : Ending) (w' : World) : Prop := e = .returned (.tuple #[.int .i64 a, .int .i64 b, .int .i64 c, .int .i64 d]) ∧ w = w'
theorem place_no (n : Int) (w : World) (h : n < 40 ∨ 8192 < n) : Calls Try.prog 33 #[.int .i64 n] w (Place4 0 0 0 0 w) := by
  by_cases h1 : n < 40
  · go_enter Try.func33, Try.ntmps33
    go_wp2
    refine bodyPost_ret (v := .tuple #[.int .i64 0, .int .i64 0, .int .i64 0, .int .i64 0]) (by simp [results, Try.results33, go_sem]) rfl ⟨rfl, rfl⟩
  · have h2 : 8192 < n := by omega
    clear h
    go_enter Try.func33, Try.ntmps33
    go_wp2
    refine bodyPost_ret (v := .tuple #[.int .i64 0, .int .i64 0, .int .i64 0, .int .i64 0]) (by simp [results, Try.results33, go_sem]) rfl ⟨rfl, rfl⟩
theorem place_yes (n : Int) (w : World) (h1 : 40 ≤ n) (h2 : n ≤ 8192) : Calls Try.prog 33 #[.int .i64 n] w (Place4 2 (n - placeC n - 2) (n - placeC n) (placeC n) w) := by
  unfold placeC
  by_cases h : n / 4 < 12
  · rw [if_pos h]
    go_enter Try.func33, Try.ntmps33
    go_wp2
    refine bodyPost_ret (v := .tuple #[.int .i64 2, .int .i64 (n - 12 - 2), .int .i64 (n - 12), .int .i64 12]) (by simp [results, Try.results33, go_sem]) rfl ⟨rfl, rfl⟩
  · rw [if_neg h]
    have h3 : 12 ≤ n / 4 := by omega
    go_enter Try.func33, Try.ntmps33
    go_wp2
    refine bodyPost_ret (v := .tuple #[.int .i64 2, .int .i64 (n - n / 4 - 2), .int .i64 (n - n / 4), .int .i64 (n / 4)]) (by simp [results, Try.results33, go_sem]) rfl ⟨rfl, rfl⟩
end Go.Proofs.Ytobjoafhhchjgaa
