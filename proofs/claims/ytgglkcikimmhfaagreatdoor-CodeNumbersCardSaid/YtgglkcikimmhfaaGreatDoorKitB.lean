/-
  What the statements share: bytes that are lent, with marks behind their end: markByte, LentBytes, KeptBytes, OverBytes.
  Conditions: at most 1000000 bytes.
-/
import Derived.Test.YtgglkcikimmhfaaGreatDoorKit
import Derived.IntWalk
namespace Go.Proofs.YtgglkcikimmhfaaGreatDoor
open Go.RowKit Go.Maps

theorem mark_any (k i : Int) (w : World) (h0 : 0 ≤ k) (h1 : k ≤ 1000) (h2 : 0 ≤ i) (h3 : i ≤ 10000000) :
    Calls Tryz.prog 43 #[.int .i64 k, .int .i64 i] w (RetSame (.int .i64 (1000003 * (k + 7) + i)) w) := by
  go_enter Tryz.func43, Tryz.ntmps43
  go_wp2
  go_ret
  exact ⟨rfl, rfl⟩
def mkB (k i : Int) : Int := IntKind.u64.wrap ((1000003 * (k + 7) + i) * 11400714819323198485) / 72057594037927936 % 256
theorem mkB_byte (k i : Int) : isByte (mkB k i) := by
  unfold isByte mkB
  generalize IntKind.u64.wrap _ / _ = x
  omega
theorem markByte_any (k i : Int) (w : World) (h0 : 0 ≤ k) (h1 : k ≤ 1000) (h2 : 0 ≤ i) (h3 : i ≤ 10000000) :
    Calls Tryz.prog 32 #[.int .i64 k, .int .i64 i] w (RetSame (.int .u8 (mkB k i)) w) := by
  go_enter Tryz.func32, Tryz.ntmps32
  go_wp2_with fail
  refine (mark_any k i _ h0 h1 h2 h3).mono ?_
  rintro e w1 ⟨rfl, rfl⟩
  go_wp2_with fail
  go_ret
  exact ⟨rfl, rfl⟩

/-- The first n marks of list k. -/
def marksB (k : Int) (n : Nat) : List Int := (List.range n).map fun (i : Nat) => mkB k i
theorem marksB_length (k : Int) (n : Nat) : (marksB k n).length = n := by simp [marksB]
theorem marksB_succ (k : Int) (n : Nat) : marksB k (n + 1) = marksB k n ++ [mkB k n] := by simp [marksB, List.range_succ]
theorem marksB_getD (k : Int) (n i : Nat) (h : i < n) : (marksB k n).getD i 0 = mkB k i := by simp [marksB, List.getD_eq_getElem?_getD, h]

theorem getD_app_l {α : Type} (a b : List α) (i : Nat) (d : α) (h : i < a.length) : (a ++ b).getD i d = a.getD i d := by
  simp [List.getD_eq_getElem?_getD, List.getElem?_append_left h]
theorem getD_app_r {α : Type} (a b : List α) (i : Nat) (d : α) (h : a.length ≤ i) : (a ++ b).getD i d = b.getD (i - a.length) d := by
  simp [List.getD_eq_getElem?_getD, List.getElem?_append_right h]

/-- A slice of bytes that may be nil, then without room. -/
structure BytS (w : World) (A : Option Addr) (n c : Nat) (zs : List Int) : Prop extends BytR w A n zs where
  nil_ : A = none → n = 0 ∧ c = 0
theorem BytS.news {w : World} {A : Option Addr} {n c : Nat} {zs : List Int} (h : BytS w A n c zs) : ∀ ad, A = some ad → ∀ j u, (u8s zs)[j]? = some u → w.cell? (ad.add j) = some u := by
  intro ad had j u hu
  have hj : j < n := by
    have := (List.getElem?_eq_some_iff.1 hu).1
    rw [u8s_length, h.len] at this
    exact this
  obtain ⟨b, off, rfl, hc⟩ := h.cell (by omega)
  injection had with had
  subst had
  have hl := h.len
  rw [Addr.add_mid, hc j hj, ← hu]
  simp only [u8s, List.getElem?_map, List.getD_eq_getElem?_getD]
  rw [List.getElem?_eq_getElem (by omega)]
  rfl
theorem RowB.bytS {w : World} {U g n cap : Nat} {zs : List Int} (h : RowB w U g n cap zs) (c : Nat) : BytS w (some ⟨g, 0, none⟩) n c zs := ⟨h.bytR, fun e => by cases e⟩
theorem BytR.turned {w w' : World} {W : Nat → Prop} {A : Option Addr} {n : Nat} {zs : List Int} (h : BytR w A n zs) (ht : Turned W w w') (hW : ∀ b o, A = some ⟨b, o, none⟩ → ¬ W b) : BytR w' A n zs :=
  ⟨h.len, h.max, fun hn => by
    obtain ⟨b, off, e, hc⟩ := h.cell hn
    exact ⟨b, off, e, fun j hj => cell_turned ht (hc j hj) (hW b off e)⟩⟩
theorem BytS.turned {w w' : World} {W : Nat → Prop} {A : Option Addr} {n c : Nat} {zs : List Int} (h : BytS w A n c zs) (ht : Turned W w w') (hW : ∀ b o, A = some ⟨b, o, none⟩ → ¬ W b) : BytS w' A n c zs :=
  ⟨h.toBytR.turned ht hW, h.nil_⟩

def LentPost (n : Nat) (zs : List Int) (w : World) (e : Ending) (w' : World) : Prop :=
  ∃ g, e = .returned (.slice (some ⟨g, 0, none⟩) n (n + 12)) ∧ RowB w' 5 g (n + 12) (n + 12) (zs ++ marksB 1 12) ∧ w.heap.size ≤ g ∧ Turned (fun _ => False) w w'
def LentRel (n : Nat) (zs : List Int) (w : World) (v i : Value) (wr : World) : Prop :=
  ∃ j : Nat, j ≤ 12 ∧ i = .int .i64 j ∧ v = .slice (some ⟨w.heap.size, 0, none⟩) (n + j) (n + 12) ∧ RowB wr 5 w.heap.size (n + j) (n + 12) (zs ++ marksB 1 j) ∧ Turned (fun _ => False) w wr

set_option maxRecDepth 100000 in
set_option maxHeartbeats 400000 in
theorem lent_bytes (A : Option Addr) (n c : Nat) (zs : List Int) (w : World) (h : BytS w A n c zs) (hn : n ≤ 1000000) :
    Calls Tryz.prog 17 #[.slice A n c] w (LentPost n zs w) := by
  obtain ⟨i0, hi, hz0, hz1, hz2⟩ := info_parts u8info
  have hI := Lib.hid (And.intro hi (And.intro hz0 (And.intro hz1 hz2)))
  have h' := Lib.hid h
  clear hi hz0 hz1 hz2 h
  go_enter Tryz.func17, Tryz.ntmps17
  go_wp2_with (first
    | (at_make; refine wpList_make_own _ rfl _ _ 22 rfl w.heap.size 5 i0 (.int .u8 0) 1 Tryz.underlying22 hI.out.1 hI.out.2.1 hI.out.2.2.1 .i64 .i64 _ (n + 12) rfl rfl (by omega) (by rw [hI.out.2.2.2]; omega) (by unfold maxLen; omega) (Nat.le_refl _) ?_; intro w1 hown hg1; have hs1 := hg1.size)
    | (at_builtin; refine wpList_append_fits_any _ rfl (.tmp 9) (.tmp 10) 22 rfl w.heap.size 5 i0 1 Tryz.underlying22 hI.out.1 hI.out.2.2.1 w.heap.size 0 (n + 12) [] rfl hown A n c (u8s zs) rfl (by rw [u8s_length, h'.out.len, Nat.mul_one]) h'.out.nil_ ((h'.out.turned ((Turned.refl (fun _ => False) w).grown hg1 (fun k e => by cases e)) (fun _ _ _ e => e)).news) (u8s_one zs) (by omega) ?_; intro w2 hown2 hg2))
  have hr2 : RowB w2 5 w.heap.size (n + 0) (n + 12) (zs ++ marksB 1 0) := by
    simp only [Nat.zero_add, List.nil_append] at hown2
    rw [show marksB 1 0 = [] from rfl, List.append_nil, Nat.add_zero]
    exact RowB.of_own hown2
  have ht2 : Turned (fun _ => False) w w2 := ((Turned.refl (fun _ => False) w).grown hg1 (fun k e => by cases e)).grown hg2 (fun k e => by injection e with e; exact .inr (Nat.le_of_eq e))
  clear hown hown2 hg1 hg2
  go_loopw [3, 4] (fun v i wr => LentRel n zs w v i wr) (fun _ i _ => 12 - (intOf i).toNat)
  case atStart => exact ⟨0, by omega, rfl, by simp, hr2, ht2⟩
  case round =>
    obtain ⟨j, hj, rfl, rfl, hr, ht⟩ := hrel
    have hr' := Lib.hid hr
    have hsz := hr.lt
    clear hr hr2 ht2 hs1
    by_cases hlt : j < 12
    · have hji : (j : Int) < 12 := by omega
      go_wp2_with (first
        | (go_at_call 32; refine (markByte_any 1 (j : Int) _ (by omega) (by omega) (by omega) (by omega)).mono ?_; rintro e w3 ⟨rfl, rfl⟩)
        | (at_builtin; refine wpList_append_fits_any _ rfl (.tmp 16) (.tmp 19) 22 rfl w.heap.size 5 i0 1 Tryz.underlying22 hI.out.1 hI.out.2.2.1 w.heap.size (n + j) (n + 12) (u8s (zs ++ marksB 1 j)) rfl ((hr'.out.own (Nat.le_refl _)).alloc _) (some ⟨wr.heap.size, 0, none⟩) 1 1 [.int .u8 (mkB 1 j)] rfl rfl (fun e => by cases e) (fun ad e => by injection e with e; subst e; exact cell_one_new _ _ _) (by simp [Value.oneCell']) (by omega) ?_; intro w4 hown4 hg4))
      have hr4 : RowB w4 5 w.heap.size (n + (j + 1)) (n + 12) (zs ++ marksB 1 (j + 1)) := by
        rw [marksB_succ, ← List.append_assoc, ← Nat.add_assoc]
        refine RowB.of_own (base := w.heap.size) ?_
        have : u8s ((zs ++ marksB 1 j) ++ [mkB 1 j]) = u8s (zs ++ marksB 1 j) ++ [Value.int .u8 (mkB 1 j)] := by simp [u8s]
        rw [this]
        exact hown4
      have ht4 : Turned (fun _ => False) w w4 := (ht.alloc _).grown hg4 (fun k e => by injection e with e; exact .inr (Nat.le_of_eq e))
      exact ⟨⟨j + 1, by omega, by go_num, by rw [Nat.add_assoc], hr4, ht4⟩, by simp [intOf]; omega⟩
    · have hj12 : j = 12 := by omega
      subst hj12
      go_wp2
      go_ret
      exact ⟨w.heap.size, rfl, hr'.out, Nat.le_refl _, ht⟩

def KeptRel (n : Nat) (w : World) (i : Value) (wr : World) : Prop := ∃ j k : Nat, j ≤ n + 12 ∧ i = .int .i64 j ∧ wr = w.drewN k
set_option maxRecDepth 100000 in
set_option maxHeartbeats 400000 in
theorem kept_bytes (A : Option Addr) (n c g cap : Nat) (zs : List Int) (w : World) (hr : RowB w 5 g (n + 12) cap (zs ++ marksB 1 12)) (hy : BytR w A n zs) (hn : n ≤ 1000000) :
    Calls Tryz.prog 19 #[.slice (some ⟨g, 0, none⟩) n cap, .slice A n c] w (RetDraw (.bool true) w) := by
  have hle := hr.le
  have hmx := hr.max
  unfold maxLen at hmx
  have hr' := Lib.hid hr
  have hy' := Lib.hid hy
  have hl := Lib.hid hy.len
  clear hr hy
  go_enter Tryz.func19, Tryz.ntmps19
  go_wp2
  go_loopw [6] (fun i wr => KeptRel n w i wr) (fun i _ => n + 12 - (intOf i).toNat)
  case atStart => exact ⟨0, 0, by omega, rfl, rfl⟩
  case round =>
    obtain ⟨j, k, hj, rfl, hwr⟩ := hrel
    have hwr' := Lib.hid hwr
    clear hwr
    by_cases hlt : j < n + 12
    · have hji : (j : Int) < (n : Int) + 12 := by omega
      have q1 : wr.cell? ⟨g, j, none⟩ = some (.int .u8 ((zs ++ marksB 1 12).getD j 0)) := by rw [hwr'.out]; exact hr'.out.cell hlt
      by_cases hjn : j < n
      · obtain ⟨b2, o2, rfl, k2⟩ := hy'.out.cell (by omega)
        have q2 : wr.cell? ⟨b2, o2 + j, none⟩ = some (.int .u8 (zs.getD j 0)) := by rw [hwr'.out]; exact k2 j hjn
        have hjl : (j : Int) < (n : Int) := by omega
        have hd1 : decide ((j : Int) < (n : Int)) = true := by simp; omega
        have hd2 : decide ((n : Int) ≤ (j : Int)) = false := by simp; omega
        have hd3 : decide (n ≤ j) = false := by simp; omega
        have hd4 : decide (j < n) = true := by simp; omega
        rw [getD_app_l _ _ _ _ (by rw [hl.out]; exact hjn)] at q1
        generalize zs.getD j 0 = x at q1 q2
        clear k2
        go_wp2
        go_quiet (fail)
        try clear hsub
        go_wp2
        go_roundw
        case rel =>
          first
          | exact ⟨j + 1, k + nq, by omega, by go_num, by rw [hwr'.out, World.drewN_drewN]⟩
          | ((repeat apply Exists.intro); exact ⟨⟨j + 1, k + nq, by omega, by go_num, by rw [hwr'.out, World.drewN_drewN]⟩, rfl⟩)
        case measure => simp [intOf]; omega
      · have hd1 : decide ((j : Int) < (n : Int)) = false := by simp; omega
        have hd2 : decide ((n : Int) ≤ (j : Int)) = true := by simp; omega
        have hd3 : decide (n ≤ j) = true := by simp; omega
        have hd4 : decide (j < n) = false := by simp; omega
        have hnj : (n : Int) ≤ (j : Int) := by omega
        rw [getD_app_r _ _ _ _ (by rw [hl.out]; omega), hl.out, marksB_getD _ _ _ (by omega)] at q1
        rw [show (((j - n : Nat) : Nat) : Int) = (j : Int) - (n : Int) by omega] at q1
        have b0 : (0 : Int) ≤ (j : Int) - (n : Int) := by omega
        have b1 : (j : Int) - (n : Int) ≤ 10000000 := by omega
        have hsub : IntKind.i64.wrap ((j : Int) - (n : Int)) = (j : Int) - (n : Int) := IntWalk.i64_in _ (by omega)
        go_wp2
        go_quiet ((go_at_call 32; exact Calls.quiet_of_same ((markByte_any 1 ((j : Int) - (n : Int)) _ (by decide) (by decide) b0 b1).mono (fun _ _ h => ⟨h.1, h.2.symm⟩))))
        try clear hsub
        go_wp2
        go_roundw
        case rel =>
          first
          | exact ⟨j + 1, k + nq, by omega, by go_num, by rw [hwr'.out, World.drewN_drewN]⟩
          | ((repeat apply Exists.intro); exact ⟨⟨j + 1, k + nq, by omega, by go_num, by rw [hwr'.out, World.drewN_drewN]⟩, rfl⟩)
        case measure => simp [intOf]; omega
    · have hge : (n : Int) + 12 ≤ (j : Int) := by omega
      go_wp2
      go_ret
      exact ⟨rfl, k, hwr'.out⟩

def OverPost (g n cap : Nat) (w : World) (e : Ending) (w' : World) : Prop := e = .returned (.tuple #[]) ∧ (∃ ys, RowB w' 5 g n cap ys) ∧ Turned (· = g) w w'
def OverRel (g n cap : Nat) (w : World) (i : Value) (wr : World) : Prop := ∃ j : Nat, j ≤ n ∧ i = .int .i64 j ∧ (∃ ys, RowB wr 5 g n cap ys) ∧ Turned (· = g) w wr
set_option maxRecDepth 100000 in
set_option maxHeartbeats 400000 in
theorem over_bytes (n g cap : Nat) (zs : List Int) (w : World) (hr : RowB w 5 g (n + 12) cap zs) (hn : n ≤ 1000000) :
    Calls Tryz.prog 20 #[.slice (some ⟨g, 0, none⟩) n cap] w (OverPost g (n + 12) cap w) := by
  have hle := hr.le
  have hmx := hr.max
  unfold maxLen at hmx
  have hr' := Lib.hid hr
  clear hr
  go_enter Tryz.func20, Tryz.ntmps20
  go_wp2
  go_loopw [3] (fun i wr => OverRel g (n + 12) cap w i wr) (fun i _ => n + 12 - (intOf i).toNat)
  case atStart => exact ⟨0, by omega, rfl, ⟨_, hr'.out⟩, Turned.refl _ _⟩
  case round =>
    obtain ⟨j, hj, rfl, ⟨ys, hr⟩, ht⟩ := hrel
    have hry := Lib.hid hr
    by_cases hlt : j < n + 12
    · have hji : (j : Int) < (n : Int) + 12 := by omega
      have hc := hr.cell hlt
      have hf := hr.frozen j
      clear hr
      go_wp2_with (go_at_call 32; refine (markByte_any 2 (j : Int) _ (by omega) (by omega) (by omega) (by omega)).mono ?_; rintro e w3 ⟨rfl, rfl⟩)
      go_roundw
      case rel =>
        first
        | exact ⟨j + 1, by omega, by go_num, ⟨_, hry.out.set j _⟩, ht.setCell (.inl rfl) _⟩
        | ((repeat apply Exists.intro); exact ⟨⟨j + 1, by omega, by go_num, ⟨_, hry.out.set j _⟩, ht.setCell (.inl rfl) _⟩, rfl⟩)
      case measure => simp [intOf]; omega
    · have hge : (n : Int) + 12 ≤ (j : Int) := by omega
      clear hr
      go_wp2
      go_end0
      exact ⟨rfl, ⟨ys, hry.out⟩, ht⟩
end Go.Proofs.YtgglkcikimmhfaaGreatDoor
