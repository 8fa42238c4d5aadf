/-
  record's reader: dirty, open, lists. No condition but the bytes' number.
-/
import Derived.Test.YtfheikmjjijdpaaDoorQRecE
namespace Go.Proofs.YtfheikmjjijdpaaDoor
open Go.RowKit Go.Maps
set_option linter.unusedVariables false
set_option linter.unusedSimpArgs false

def PairPost (r a : Nat) (s : Option (List Int)) (w : World) (e : Ending) (w' : World) : Prop := e = .returned (.agg #[.int .i64 (pairS a s).1.1, .int .i64 (pairS a s).1.2]) ∧ IsRd w' r (pairS a s).2 ∧ Turned (· = r) w w'
theorem news_new (w : World) (T : TypeId) (cs : List Value) : ∀ j u, cs[j]? = some u → (w.alloc (.cells cs.toArray T)).cell? ((⟨w.heap.size, 0, none⟩ : Addr).add j) = some u := by
  intro j u hu
  rw [Addr.add_mid, Nat.zero_add, (Blk.new w T cs.toArray).cell]
  simpa using hu
theorem pairS_bytes {a : Nat} {s : Option (List Int)} (hs : ∀ ys, s = some ys → ∀ y ∈ ys, isByte y) : ∀ ys, (pairS a s).2 = some ys → ∀ y ∈ ys, isByte y := numS_bytes (numS_bytes hs)
def ListPost (T r a : Nat) (s : Option (List Int)) (w : World) (e : Ending) (w' : World) : Prop :=
  ∃ A c, e = .returned (.slice A (listN a s).1.length c) ∧ OwnE w' T 2 A (listN a s).1.length c (pairC (listN a s).1) ∧ (∀ g, A = some ⟨g, 0, none⟩ → w.heap.size ≤ g) ∧ IsRd w' r (listN a s).2 ∧ (∀ ys, (listN a s).2 = some ys → ∀ y ∈ ys, isByte y) ∧ Turned (· = r) w w'
def ListRel (T r a k0 : Nat) (s0 : Option (List Int)) (w : World) (v i : Value) (wr : World) : Prop :=
  ∃ (xs : List (Int × Int)) (k : Nat) (s : Option (List Int)) (A : Option Addr) (c : Nat), i = .int .i64 k ∧ v = .slice A xs.length c ∧ OwnE wr T 2 A xs.length c (pairC xs) ∧ (∀ g, A = some ⟨g, 0, none⟩ → w.heap.size ≤ g) ∧ IsRd wr r s ∧ (∀ ys, s = some ys → ∀ y ∈ ys, isByte y) ∧ xs.length + k ≤ 65535 ∧
    listS a k0 s0 = (xs ++ (listS a k s).1, (listS a k s).2) ∧ Turned (· = r) w wr
theorem listS_stop (a k : Nat) (s : Option (List Int)) (h : k = 0 ∨ s = none) : listS a k s = ([], s) := by
  rcases h with rfl | rfl
  · rfl
  · cases k <;> rfl
theorem ListRel.step {T r a k0 k : Nat} {s0 : Option (List Int)} {w wr w3 w4 : World} {xs : List (Int × Int)} {zs : List Int} {A A4 : Option Addr} {c c4 : Nat} {o : Obj} (hg : ∀ g, A = some ⟨g, 0, none⟩ → w.heap.size ≤ g) (hr : r < w.heap.size) (hs : ∀ ys, (some zs : Option (List Int)) = some ys → ∀ y ∈ ys, isByte y) (hl : xs.length + (k + 1) ≤ 65535)
    (he : listS a k0 s0 = (xs ++ (listS a (k + 1) (some zs)).1, (listS a (k + 1) (some zs)).2)) (ht : Turned (· = r) w wr) (hR : IsRd w3 r (pairS a (some zs)).2) (t3 : Turned (· = r) wr w3)
    (ho : OwnE w4 T 2 A4 (xs.length + 1) c4 (pairC xs ++ [.int .i64 (pairS a (some zs)).1.1, .int .i64 (pairS a (some zs)).1.2])) (h4 : App2 (w3.alloc o) w4 A A4 c c4) :
    ListRel T r a k0 s0 w (.slice A4 (xs.length + 1) c4) (.int .i64 (k : Int)) w4 := by
  have t03 := ht.trans (W := (· = r)) t3 (fun _ e => e) (fun _ e => .inl e)
  have hT4 : Turned (fun g => w.heap.size ≤ g) w3 w4 := (((Turned.refl (fun g => w.heap.size ≤ g) w3).alloc o).trans h4.turned (fun _ e => e) (fun g e => .inl (hg g e)))
  have hl2 : (xs ++ [(pairS a (some zs)).1]).length = xs.length + 1 := by simp
  refine ⟨xs ++ [(pairS a (some zs)).1], k, (pairS a (some zs)).2, A4, c4, rfl, by rw [hl2], ?_, fun g e => ?_, hR.keep hT4 (fun i hi => by omega), pairS_bytes hs, by rw [hl2]; omega, ?_, ?_⟩
  · rw [hl2, pairC_append]
    exact ho
  · rcases h4 with ⟨e1, _⟩ | ⟨e1, _⟩
    · exact hg g (by rw [← e1]; exact e)
    · rw [e1] at e
      injection e with e
      injection e with e
      have := t03.size
      simp at e
      omega
  · rw [he]
    show (xs ++ ((pairS a (some zs)).1 :: (listS a k (pairS a (some zs)).2).1), (listS a k (pairS a (some zs)).2).2) = _
    rw [List.append_assoc]
    rfl
  · exact t03.trans (W := (· = r)) hT4 (fun _ e => e) (fun i e => .inr e)

theorem dirtyT : EltT Tryd.prog 36 95 2 16 (.agg #[.int .i64 0, .int .i64 0]) := ⟨Tryd.underlying36, by kernel_rfl, rfl, by omega⟩
set_option maxRecDepth 100000 in
set_option maxHeartbeats 1000000 in
theorem dirty_any (r : Nat) (s : Option (List Int)) (w : World) (h : IsRd w r s) (hs : ∀ ys, s = some ys → ∀ y ∈ ys, isByte y) : Calls Tryd.prog 74 #[.pointer (some ⟨r, 0, none⟩)] w (PairPost r 2 s w) := by
  have hp : pairS 2 s = (((numS 2 s).1, (numS 8 (numS 2 s).2).1), (numS 8 (numS 2 s).2).2) := rfl
  have hrl := h.lt
  have hp' := Lib.hid hp
  have hb2 := Lib.hid (numS_bytes (k := 2) hs)
  have hN1 := Lib.hid (number_any r 2 s _ (h.fresh ((Turned.refl (fun _ => False) w).alloc (.cells #[.int .i64 0, .int .i64 0] 95))) (by omega) hs)
  have hN2 := Lib.hid (fun (w1 : World) (h1 : IsRd w1 r (numS 2 s).2) => number_any r 8 _ w1 h1 (by omega) (numS_bytes (k := 2) hs))
  have hB := Lib.hid (Blk.new w 95 #[.int .i64 0, .int .i64 0])
  have t0 := Lib.hid ((Turned.refl (fun _ => False) w).alloc (.cells #[.int .i64 0, .int .i64 0] 95))
  clear hp h hs
  unfold NumSPost at hN1 hN2
  generalize (numS 8 (numS 2 s).2).1 = y at *
  generalize (numS 8 (numS 2 s).2).2 = s2 at *
  generalize (numS 2 s).1 = x at *
  generalize (numS 2 s).2 = s1 at *
  go_enter Tryd.func74, Tryd.ntmps74
  go_wp2_with fail
  refine hN1.out.mono ?_
  rintro e w1 ⟨rfl, hR1, t1⟩
  have hR1' := Lib.hid hR1
  have t1' := Lib.hid t1
  have hB1 := Lib.hid (hB.out.turned t1 (fun e => by omega))
  clear hR1 t1 hN1
  go_wp2_with fail
  refine (hN2.out _ hR1'.out).mono ?_
  rintro e w2 ⟨rfl, hR2, t2⟩
  have hR2' := Lib.hid hR2
  have T2 := Lib.hid ((t0.out.trans (W := (· = r)) t1'.out (fun _ e => e.elim) (fun _ e => .inl e)).trans (W := (· = r)) t2 (fun _ e => e) (fun _ e => .inl e))
  have hB2 := hB1.out.turned t2 (fun e => by omega)
  have q0 : w2.cell? ⟨w.heap.size, 0, none⟩ = some (.int .i64 0) := hB2.cell 0
  have q1 : w2.cell? ⟨w.heap.size, 1, none⟩ = some (.int .i64 0) := hB2.cell 1
  have f0 := hB2.frozen 0
  have f1 := hB2.frozen 1
  have hB2' := Lib.hid hB2
  clear hR2 t2 hN2 hB1 hB hB2 t0 t1' hR1'
  go_wp2_with fail
  have hB3 := (hB2'.out.set_ 0 (.int .i64 x)).set_ 1 (.int .i64 y)
  have e0 : ((w2.setCell ⟨w.heap.size, 0, none⟩ (.int .i64 x)).setCell ⟨w.heap.size, 1, none⟩ (.int .i64 y)).cell? ⟨w.heap.size, 0, none⟩ = some (.int .i64 x) := hB3.cell 0
  have e1 : ((w2.setCell ⟨w.heap.size, 0, none⟩ (.int .i64 x)).setCell ⟨w.heap.size, 1, none⟩ (.int .i64 y)).cell? ⟨w.heap.size, 1, none⟩ = some (.int .i64 y) := hB3.cell 1
  have tB : Turned (fun i => i = w.heap.size) w2 ((w2.setCell ⟨w.heap.size, 0, none⟩ (.int .i64 x)).setCell ⟨w.heap.size, 1, none⟩ (.int .i64 y)) := ((Turned.refl (fun i => i = w.heap.size) w2).setCell (p := ⟨w.heap.size, 0, none⟩) (.inl rfl) _).setCell (p := ⟨w.heap.size, 1, none⟩) (.inl rfl) _
  have hRB := hR2'.out.keep tB (fun i hi => by omega)
  have TB := T2.out.trans (W := (· = r)) tB (fun _ e => e) (fun i e => .inr (by omega))
  generalize (w2.setCell ⟨w.heap.size, 0, none⟩ (.int .i64 x)).setCell ⟨w.heap.size, 1, none⟩ (.int .i64 y) = w3 at *
  refine bodyPost_ret (v := .agg #[.int .i64 x, .int .i64 y]) (by simp [results, Tryd.results74, go_sem, e0, e1]) rfl ⟨?_, ?_, TB⟩
  · rw [hp'.out]
  · rw [hp'.out]; exact hRB
set_option maxRecDepth 100000 in
set_option maxHeartbeats 1000000 in
theorem listdirty_any (r : Nat) (s : Option (List Int)) (w : World) (h : IsRd w r s) (hs : ∀ ys, s = some ys → ∀ y ∈ ys, isByte y) : Calls Tryd.prog 73 #[.pointer (some ⟨r, 0, none⟩), .func (.func 74) #[.pointer (some ⟨r, 0, none⟩)] #[]] w (ListPost 95 r 2 s w) := by
  obtain ⟨k0, hk0, hk1⟩ := numS2_nat s hs
  have hrl := h.lt
  have hN := number_any r 2 s w h (by omega) hs
  unfold NumSPost at hN
  rw [hk0] at hN
  have hN' := Lib.hid hN
  have hb2 := Lib.hid (numS_bytes (k := 2) hs)
  have hLN := Lib.hid (show listN 2 s = listS 2 k0 (numS 2 s).2 by unfold listN; rw [hk0, Int.toNat_natCast])
  clear hN h hs hk0
  generalize (numS 2 s).2 = s0 at *
  go_enter Tryd.func73, Tryd.ntmps73
  go_wp2_with fail
  refine hN'.out.mono ?_
  rintro e w1 ⟨rfl, hR1, t1⟩
  have hst := Lib.hid (show ListRel 95 r 2 k0 s0 w (.slice none 0 0) (.int .i64 (k0 : Int)) w1 from ⟨[], k0, s0, none, 0, rfl, rfl, OwnE.nil _ _ _, (fun g e => by cases e), hR1, hb2.out, by simp; omega, by simp, t1⟩)
  clear hN' hR1 t1
  go_wp2_with fail
  go_loopw [5, 6] (fun v i wr => ListRel 95 r 2 k0 s0 w v i wr) (fun _ i _ => (intOf i).toNat)
  case atStart => exact hst.out
  case round =>
    obtain ⟨xs, k, s1, A, c, rfl, rfl, ho, hg, hR, hs1, hl, he, ht⟩ := hrel
    clear hst
    by_cases hk : 0 < k
    · have hki : (0 : Int) < (k : Int) := by omega
      cases s1 with
      | none =>
        have q1 : wr.cell? ⟨r, 1, none⟩ = some (.bool true) := by obtain ⟨_, _, _, hb, _⟩ := hR; exact hb.cell 1
        have he2 := Lib.hid (show listN 2 s = (xs, none) by rw [hLN.out, he, listS_stop 2 k none (.inr rfl), List.append_nil])
        have F := Lib.hid (And.intro ho (And.intro hg (And.intro hR (And.intro hs1 ht))))
        clear ho hg hR hs1 ht he
        go_wp2_with fail
        go_ret
        unfold ListPost
        rw [he2.out]
        exact ⟨A, c, rfl, F.out.1, F.out.2.1, F.out.2.2.1, F.out.2.2.2.1, F.out.2.2.2.2⟩
      | some zs =>
        obtain ⟨k', rfl⟩ : ∃ k', k = k' + 1 := ⟨k - 1, by omega⟩
        have q1 : wr.cell? ⟨r, 1, none⟩ = some (.bool false) := by obtain ⟨_, _, _, hb, _⟩ := hR; exact hb.cell 1
        have hO := Lib.hid (dirty_any r (some zs) wr hR hs1)
        have hst := Lib.hid (fun (w3 w4 : World) (A4 : Option Addr) (c4 : Nat) (o : Obj) (hR3 : IsRd w3 r (pairS 2 (some zs)).2) (t3 : Turned (· = r) wr w3) (ho4 : OwnE w4 95 2 A4 (xs.length + 1) c4 (pairC xs ++ [.int .i64 (pairS 2 (some zs)).1.1, .int .i64 (pairS 2 (some zs)).1.2])) (h4 : App2 (w3.alloc o) w4 A A4 c c4) => ListRel.step (T := 95) (k0 := k0) (s0 := s0) hg hrl hs1 hl he ht hR3 t3 ho4 h4)
        have ho' := Lib.hid ho
        have hA := Lib.hid (fun g (e : A = some ⟨g, 0, none⟩) => show g ≠ r from fun e2 => by have := hg g e; omega)
        have hxl : xs.length ≤ 65535 := by omega
        unfold PairPost at hO
        generalize (pairS 2 (some zs)).1.1 = x at *
        generalize (pairS 2 (some zs)).1.2 = y at *
        generalize (pairS 2 (some zs)).2 = s2 at *
        clear ho hg hR hs1 ht he
        go_wp2_with fail
        refine hO.out.mono ?_
        rintro e w3 ⟨rfl, hR3, t3⟩
        have hR3' := Lib.hid hR3
        have t3' := Lib.hid t3
        clear hR3 t3 hO
        go_wp2_with (at_builtin; refine wpList_appE dirtyT rfl (.tmp 20) (.tmp 23) rfl ((ho'.out.turned t3'.out (fun g e e2 => hA.out g e e2)).turned ((Turned.refl (fun _ => False) w3).alloc _) (fun _ _ e => e)) ⟨w3.heap.size, 0, none⟩ 1 1 [.int .i64 x, .int .i64 y] rfl (news_new w3 95 [.int .i64 x, .int .i64 y]) (by simp [Value.oneCell']) (by omega) (by unfold maxLen; omega) (by omega) rfl rfl ?_; intro A4 c4 w4 ho4 hor4)
        have hR := Lib.hid (hst.out w3 w4 A4 c4 _ hR3'.out t3'.out ho4 hor4)
        clear ho4 hor4
        go_roundw
        case rel =>
          have hz : Value.int .i64 (((k' : Int) + 1) - 1) = .int .i64 (k' : Int) := by congr 1; omega
          first
          | exact hR.out
          | ((repeat apply Exists.intro); exact ⟨hR.out, rfl⟩)
        case measure => simp [intOf] <;> omega
    · obtain rfl : k = 0 := by omega
      have he2 := Lib.hid (show listN 2 s = (xs, s1) by rw [hLN.out, he, listS_stop 2 0 s1 (.inl rfl), List.append_nil])
      have F := Lib.hid (And.intro ho (And.intro hg (And.intro hR (And.intro hs1 ht))))
      clear ho hg hR hs1 ht he
      go_wp2_with fail
      go_ret
      unfold ListPost
      rw [he2.out]
      exact ⟨A, c, rfl, F.out.1, F.out.2.1, F.out.2.2.1, F.out.2.2.2.1, F.out.2.2.2.2⟩

theorem openT : EltT Tryd.prog 37 97 2 16 (.agg #[.int .i64 0, .int .i64 0]) := ⟨Tryd.underlying37, by kernel_rfl, rfl, by omega⟩
set_option maxRecDepth 100000 in
set_option maxHeartbeats 1000000 in
theorem open_any (r : Nat) (s : Option (List Int)) (w : World) (h : IsRd w r s) (hs : ∀ ys, s = some ys → ∀ y ∈ ys, isByte y) : Calls Tryd.prog 76 #[.pointer (some ⟨r, 0, none⟩)] w (PairPost r 8 s w) := by
  have hp : pairS 8 s = (((numS 8 s).1, (numS 8 (numS 8 s).2).1), (numS 8 (numS 8 s).2).2) := rfl
  have hrl := h.lt
  have hp' := Lib.hid hp
  have hb2 := Lib.hid (numS_bytes (k := 8) hs)
  have hN1 := Lib.hid (number_any r 8 s _ (h.fresh ((Turned.refl (fun _ => False) w).alloc (.cells #[.int .i64 0, .int .i64 0] 97))) (by omega) hs)
  have hN2 := Lib.hid (fun (w1 : World) (h1 : IsRd w1 r (numS 8 s).2) => number_any r 8 _ w1 h1 (by omega) (numS_bytes (k := 8) hs))
  have hB := Lib.hid (Blk.new w 97 #[.int .i64 0, .int .i64 0])
  have t0 := Lib.hid ((Turned.refl (fun _ => False) w).alloc (.cells #[.int .i64 0, .int .i64 0] 97))
  clear hp h hs
  unfold NumSPost at hN1 hN2
  generalize (numS 8 (numS 8 s).2).1 = y at *
  generalize (numS 8 (numS 8 s).2).2 = s2 at *
  generalize (numS 8 s).1 = x at *
  generalize (numS 8 s).2 = s1 at *
  go_enter Tryd.func76, Tryd.ntmps76
  go_wp2_with fail
  refine hN1.out.mono ?_
  rintro e w1 ⟨rfl, hR1, t1⟩
  have hR1' := Lib.hid hR1
  have t1' := Lib.hid t1
  have hB1 := Lib.hid (hB.out.turned t1 (fun e => by omega))
  clear hR1 t1 hN1
  go_wp2_with fail
  refine (hN2.out _ hR1'.out).mono ?_
  rintro e w2 ⟨rfl, hR2, t2⟩
  have hR2' := Lib.hid hR2
  have T2 := Lib.hid ((t0.out.trans (W := (· = r)) t1'.out (fun _ e => e.elim) (fun _ e => .inl e)).trans (W := (· = r)) t2 (fun _ e => e) (fun _ e => .inl e))
  have hB2 := hB1.out.turned t2 (fun e => by omega)
  have q0 : w2.cell? ⟨w.heap.size, 0, none⟩ = some (.int .i64 0) := hB2.cell 0
  have q1 : w2.cell? ⟨w.heap.size, 1, none⟩ = some (.int .i64 0) := hB2.cell 1
  have f0 := hB2.frozen 0
  have f1 := hB2.frozen 1
  have hB2' := Lib.hid hB2
  clear hR2 t2 hN2 hB1 hB hB2 t0 t1' hR1'
  go_wp2_with fail
  have hB3 := (hB2'.out.set_ 0 (.int .i64 x)).set_ 1 (.int .i64 y)
  have e0 : ((w2.setCell ⟨w.heap.size, 0, none⟩ (.int .i64 x)).setCell ⟨w.heap.size, 1, none⟩ (.int .i64 y)).cell? ⟨w.heap.size, 0, none⟩ = some (.int .i64 x) := hB3.cell 0
  have e1 : ((w2.setCell ⟨w.heap.size, 0, none⟩ (.int .i64 x)).setCell ⟨w.heap.size, 1, none⟩ (.int .i64 y)).cell? ⟨w.heap.size, 1, none⟩ = some (.int .i64 y) := hB3.cell 1
  have tB : Turned (fun i => i = w.heap.size) w2 ((w2.setCell ⟨w.heap.size, 0, none⟩ (.int .i64 x)).setCell ⟨w.heap.size, 1, none⟩ (.int .i64 y)) := ((Turned.refl (fun i => i = w.heap.size) w2).setCell (p := ⟨w.heap.size, 0, none⟩) (.inl rfl) _).setCell (p := ⟨w.heap.size, 1, none⟩) (.inl rfl) _
  have hRB := hR2'.out.keep tB (fun i hi => by omega)
  have TB := T2.out.trans (W := (· = r)) tB (fun _ e => e) (fun i e => .inr (by omega))
  generalize (w2.setCell ⟨w.heap.size, 0, none⟩ (.int .i64 x)).setCell ⟨w.heap.size, 1, none⟩ (.int .i64 y) = w3 at *
  refine bodyPost_ret (v := .agg #[.int .i64 x, .int .i64 y]) (by simp [results, Tryd.results76, go_sem, e0, e1]) rfl ⟨?_, ?_, TB⟩
  · rw [hp'.out]
  · rw [hp'.out]; exact hRB
set_option maxRecDepth 100000 in
set_option maxHeartbeats 1000000 in
theorem listopen_any (r : Nat) (s : Option (List Int)) (w : World) (h : IsRd w r s) (hs : ∀ ys, s = some ys → ∀ y ∈ ys, isByte y) : Calls Tryd.prog 75 #[.pointer (some ⟨r, 0, none⟩), .func (.func 76) #[.pointer (some ⟨r, 0, none⟩)] #[]] w (ListPost 97 r 8 s w) := by
  obtain ⟨k0, hk0, hk1⟩ := numS2_nat s hs
  have hrl := h.lt
  have hN := number_any r 2 s w h (by omega) hs
  unfold NumSPost at hN
  rw [hk0] at hN
  have hN' := Lib.hid hN
  have hb2 := Lib.hid (numS_bytes (k := 2) hs)
  have hLN := Lib.hid (show listN 8 s = listS 8 k0 (numS 2 s).2 by unfold listN; rw [hk0, Int.toNat_natCast])
  clear hN h hs hk0
  generalize (numS 2 s).2 = s0 at *
  go_enter Tryd.func75, Tryd.ntmps75
  go_wp2_with fail
  refine hN'.out.mono ?_
  rintro e w1 ⟨rfl, hR1, t1⟩
  have hst := Lib.hid (show ListRel 97 r 8 k0 s0 w (.slice none 0 0) (.int .i64 (k0 : Int)) w1 from ⟨[], k0, s0, none, 0, rfl, rfl, OwnE.nil _ _ _, (fun g e => by cases e), hR1, hb2.out, by simp; omega, by simp, t1⟩)
  clear hN' hR1 t1
  go_wp2_with fail
  go_loopw [5, 6] (fun v i wr => ListRel 97 r 8 k0 s0 w v i wr) (fun _ i _ => (intOf i).toNat)
  case atStart => exact hst.out
  case round =>
    obtain ⟨xs, k, s1, A, c, rfl, rfl, ho, hg, hR, hs1, hl, he, ht⟩ := hrel
    clear hst
    by_cases hk : 0 < k
    · have hki : (0 : Int) < (k : Int) := by omega
      cases s1 with
      | none =>
        have q1 : wr.cell? ⟨r, 1, none⟩ = some (.bool true) := by obtain ⟨_, _, _, hb, _⟩ := hR; exact hb.cell 1
        have he2 := Lib.hid (show listN 8 s = (xs, none) by rw [hLN.out, he, listS_stop 8 k none (.inr rfl), List.append_nil])
        have F := Lib.hid (And.intro ho (And.intro hg (And.intro hR (And.intro hs1 ht))))
        clear ho hg hR hs1 ht he
        go_wp2_with fail
        go_ret
        unfold ListPost
        rw [he2.out]
        exact ⟨A, c, rfl, F.out.1, F.out.2.1, F.out.2.2.1, F.out.2.2.2.1, F.out.2.2.2.2⟩
      | some zs =>
        obtain ⟨k', rfl⟩ : ∃ k', k = k' + 1 := ⟨k - 1, by omega⟩
        have q1 : wr.cell? ⟨r, 1, none⟩ = some (.bool false) := by obtain ⟨_, _, _, hb, _⟩ := hR; exact hb.cell 1
        have hO := Lib.hid (open_any r (some zs) wr hR hs1)
        have hst := Lib.hid (fun (w3 w4 : World) (A4 : Option Addr) (c4 : Nat) (o : Obj) (hR3 : IsRd w3 r (pairS 8 (some zs)).2) (t3 : Turned (· = r) wr w3) (ho4 : OwnE w4 97 2 A4 (xs.length + 1) c4 (pairC xs ++ [.int .i64 (pairS 8 (some zs)).1.1, .int .i64 (pairS 8 (some zs)).1.2])) (h4 : App2 (w3.alloc o) w4 A A4 c c4) => ListRel.step (T := 97) (k0 := k0) (s0 := s0) hg hrl hs1 hl he ht hR3 t3 ho4 h4)
        have ho' := Lib.hid ho
        have hA := Lib.hid (fun g (e : A = some ⟨g, 0, none⟩) => show g ≠ r from fun e2 => by have := hg g e; omega)
        have hxl : xs.length ≤ 65535 := by omega
        unfold PairPost at hO
        generalize (pairS 8 (some zs)).1.1 = x at *
        generalize (pairS 8 (some zs)).1.2 = y at *
        generalize (pairS 8 (some zs)).2 = s2 at *
        clear ho hg hR hs1 ht he
        go_wp2_with fail
        refine hO.out.mono ?_
        rintro e w3 ⟨rfl, hR3, t3⟩
        have hR3' := Lib.hid hR3
        have t3' := Lib.hid t3
        clear hR3 t3 hO
        go_wp2_with (at_builtin; refine wpList_appE openT rfl (.tmp 20) (.tmp 23) rfl ((ho'.out.turned t3'.out (fun g e e2 => hA.out g e e2)).turned ((Turned.refl (fun _ => False) w3).alloc _) (fun _ _ e => e)) ⟨w3.heap.size, 0, none⟩ 1 1 [.int .i64 x, .int .i64 y] rfl (news_new w3 97 [.int .i64 x, .int .i64 y]) (by simp [Value.oneCell']) (by omega) (by unfold maxLen; omega) (by omega) rfl rfl ?_; intro A4 c4 w4 ho4 hor4)
        have hR := Lib.hid (hst.out w3 w4 A4 c4 _ hR3'.out t3'.out ho4 hor4)
        clear ho4 hor4
        go_roundw
        case rel =>
          have hz : Value.int .i64 (((k' : Int) + 1) - 1) = .int .i64 (k' : Int) := by congr 1; omega
          first
          | exact hR.out
          | ((repeat apply Exists.intro); exact ⟨hR.out, rfl⟩)
        case measure => simp [intOf] <;> omega
    · obtain rfl : k = 0 := by omega
      have he2 := Lib.hid (show listN 8 s = (xs, s1) by rw [hLN.out, he, listS_stop 8 0 s1 (.inl rfl), List.append_nil])
      have F := Lib.hid (And.intro ho (And.intro hg (And.intro hR (And.intro hs1 ht))))
      clear ho hg hR hs1 ht he
      go_wp2_with fail
      go_ret
      unfold ListPost
      rw [he2.out]
      exact ⟨A, c, rfl, F.out.1, F.out.2.1, F.out.2.2.1, F.out.2.2.2.1, F.out.2.2.2.2⟩
end Go.Proofs.YtfheikmjjijdpaaDoor

