/-
  What the statements share: fates that are lent, with marks behind their end: markFate, LentFates, KeptFates.
  Conditions: at most 1000000 fates.
-/
import Derived.Test.YtmblonmpiomjgaaGreatKitB
import Derived.Test.YtmblonmpiomjgaaGreatOpen
import Derived.Test.YtmblonmpiomjgaaGreatRegB
namespace Go.Proofs.YtmblonmpiomjgaaGreat
open Go.RowKit Go.Maps

theorem fateinfo : (Tryz.prog.info? 56).map (fun i => (i.zero, i.size, i.bytes)) = some (some (.agg #[.int .i64 0]), 1, 8) := by kernel_rfl
def mkI (k i : Int) : Int := 1000003 * (k + 7) + i
theorem markFate_any (k i : Int) (w : World) (h0 : 0 ≤ k) (h1 : k ≤ 1000) (h2 : 0 ≤ i) (h3 : i ≤ 10000000) :
    Calls Tryz.prog 44 #[.int .i64 k, .int .i64 i] w (RetNew (.agg #[.int .i64 (mkI k i)]) w) := by
  go_enter Tryz.func44, Tryz.ntmps44
  go_wp2_with fail
  refine (mark_any k i _ h0 h1 h2 h3).mono ?_
  rintro e w1 ⟨rfl, rfl⟩
  go_wp2_with fail
  refine bodyPost_ret (v := .agg #[.int .i64 (mkI k i)]) (by simp [results, Tryz.results44, go_sem, mkI]) rfl ⟨rfl, ?_⟩
  exact (Turned.refl (fun _ => False) w).alloc _

/-- The numbers as whole numbers in memory. -/
def i64s (zs : List Int) : List Value := zs.map (Value.int .i64)
theorem i64s_length (zs : List Int) : (i64s zs).length = zs.length := by simp [i64s]
theorem i64s_one (zs : List Int) : ∀ v ∈ i64s zs, v.oneCell' = true := by
  intro v hv
  obtain ⟨z, _, rfl⟩ := List.mem_map.1 hv
  rfl
/-- n numbers zs at the head of block g, which has room for cap. -/
structure RowI (w : World) (U g n cap : Nat) (zs : List Int) : Prop where
  len : zs.length = n
  le : n ≤ cap
  max : cap ≤ maxLen
  row : ∃ cs, Blk w g U cs ∧ cs.size = cap ∧ cs.toList.take n = i64s zs
section
variable {w w' : World} {U g n cap : Nat} {zs : List Int}
theorem RowI.lt (h : RowI w U g n cap zs) : g < w.heap.size := let ⟨_, hb, _⟩ := h.row; hb.lt
theorem RowI.turned {W : Nat → Prop} (h : RowI w U g n cap zs) (ht : Turned W w w') (hg : ¬ W g) : RowI w' U g n cap zs :=
  let ⟨cs, hb, r⟩ := h.row; ⟨h.len, h.le, h.max, cs, hb.turned ht hg, r⟩
theorem RowI.own (h : RowI w U g n cap zs) {base : Nat} (hb : base ≤ g) : w.ownsRow base U 1 (.slice (some ⟨g, 0, none⟩) n cap) n (i64s zs) :=
  let ⟨cs, hb', hs, ht⟩ := h.row; ⟨by rw [i64s_length, h.len, Nat.mul_one], .inr ⟨g, cap, cs, rfl, hb, hb', h.le, h.max, by rw [hs, Nat.mul_one], by rw [Nat.mul_one]; exact ht⟩⟩
theorem RowI.of_own {base : Nat} (h : w.ownsRow base U 1 (.slice (some ⟨g, 0, none⟩) n cap) n (i64s zs)) : RowI w U g n cap zs := by
  obtain ⟨h1, h2⟩ := h
  rcases h2 with ⟨h2, _⟩ | ⟨g', cap', cs, hv, _, hb, hn, hc, hs, ht⟩
  · cases h2
  · injection hv with hv1 hv2 hv3
    injection hv1 with hv1
    injection hv1 with hv1
    subst hv1 hv3
    rw [Nat.mul_one] at hs ht
    exact ⟨by rw [i64s_length, Nat.mul_one] at h1; exact h1, hn, hc, cs, hb, hs, ht⟩
theorem RowI.cell (h : RowI w U g n cap zs) {i : Nat} (hi : i < n) : w.cell? ⟨g, i, none⟩ = some (.int .i64 (zs.getD i 0)) := by
  obtain ⟨cs, hb, hs, ht⟩ := h.row
  have hl := h.len
  rw [hb.cell]
  have h1 : (i64s zs)[i]? = some (.int .i64 (zs.getD i 0)) := by
    simp only [i64s, List.getElem?_map, List.getD_eq_getElem?_getD]
    rw [List.getElem?_eq_getElem (by omega)]
    rfl
  rw [← ht, List.getElem?_take, if_pos hi] at h1
  simpa using h1
theorem RowI.fates (h : RowI w U g n cap zs) {k B : Nat} (hk : k ≤ n) (hB : g < B) (hwf : ∀ f ∈ zs.take k, (Lit.int .i64 f).wf = true) : FatesR w B (some ⟨g, 0, none⟩) k (zs.take k) := by
  have hl := h.len
  have hle := h.le
  have hmx := h.max
  unfold maxLen at hmx
  refine ⟨by rw [List.length_take]; omega, by omega, hwf, fun _ => ⟨g, 0, rfl, hB, fun j hj => ?_⟩⟩
  rw [Nat.zero_add, h.cell (by omega), List.getD_eq_getElem?_getD, List.getD_eq_getElem?_getD, List.getElem?_take, if_pos hj]
end

def marksI (k : Int) (n : Nat) : List Int := (List.range n).map fun (i : Nat) => mkI k i
theorem marksI_length (k : Int) (n : Nat) : (marksI k n).length = n := by simp [marksI]
theorem marksI_succ (k : Int) (n : Nat) : marksI k (n + 1) = marksI k n ++ [mkI k n] := by simp [marksI, List.range_succ]
theorem marksI_getD (k : Int) (n i : Nat) (h : i < n) : (marksI k n).getD i 0 = mkI k i := by simp [marksI, List.getD_eq_getElem?_getD, h]

/-- Fates that may be nil, then without room. -/
structure FatS (w : World) (B : Nat) (A : Option Addr) (n c : Nat) (zs : List Int) : Prop extends FatesR w B A n zs where
  nil_ : A = none → n = 0 ∧ c = 0
theorem FatesR.news {w : World} {B : Nat} {A : Option Addr} {n : Nat} {zs : List Int} (h : FatesR w B A n zs) : ∀ ad, A = some ad → ∀ j u, (i64s zs)[j]? = some u → w.cell? (ad.add j) = some u := by
  intro ad had j u hu
  have hj : j < n := by
    have := (List.getElem?_eq_some_iff.1 hu).1
    rw [i64s_length, h.len] at this
    exact this
  obtain ⟨b, off, rfl, _, hc⟩ := h.cell (by omega)
  injection had with had
  subst had
  have hl := h.len
  rw [Addr.add_mid, hc j hj, ← hu]
  simp only [i64s, List.getElem?_map, List.getD_eq_getElem?_getD]
  rw [List.getElem?_eq_getElem (by omega)]
  rfl
theorem FatesR.fresh {w w' : World} {B : Nat} {A : Option Addr} {n : Nat} {zs : List Int} (h : FatesR w B A n zs) (ht : Turned (fun _ => False) w w') : FatesR w' B A n zs :=
  ⟨h.len, h.max, h.wf, fun hn => by
    obtain ⟨b, off, e, hlt, hc⟩ := h.cell hn
    exact ⟨b, off, e, hlt, fun j hj => cell_turned ht (hc j hj) (fun e => e)⟩⟩

def LentFPost (n : Nat) (zs : List Int) (w : World) (e : Ending) (w' : World) : Prop :=
  ∃ g, e = .returned (.slice (some ⟨g, 0, none⟩) n (n + 12)) ∧ RowI w' 56 g (n + 12) (n + 12) (zs ++ marksI 1 12) ∧ w.heap.size ≤ g ∧ Turned (fun _ => False) w w'
def LentFRel (n : Nat) (zs : List Int) (w : World) (v i : Value) (wr : World) : Prop :=
  ∃ j : Nat, j ≤ 12 ∧ i = .int .i64 j ∧ v = .slice (some ⟨w.heap.size, 0, none⟩) (n + j) (n + 12) ∧ RowI wr 56 w.heap.size (n + j) (n + 12) (zs ++ marksI 1 j) ∧ Turned (fun _ => False) w wr

set_option maxRecDepth 100000 in
set_option maxHeartbeats 400000 in
theorem lent_fates (A : Option Addr) (n c B : Nat) (zs : List Int) (w : World) (h : FatesR w B A n zs) (hnil : A = none → n = 0 ∧ c = 0) (hn : n ≤ 1000000) :
    Calls Tryz.prog 30 #[.slice A n c] w (LentFPost n zs w) := by
  obtain ⟨i0, hi, hz0, hz1, hz2⟩ := info_parts fateinfo
  have hI := Lib.hid (And.intro hi (And.intro hz0 (And.intro hz1 hz2)))
  have h' := Lib.hid h
  have hnil' := Lib.hid hnil
  clear hi hz0 hz1 hz2 h hnil
  go_enter Tryz.func30, Tryz.ntmps30
  go_wp2_with (first
    | (at_make; refine wpList_make_own _ rfl _ _ 29 rfl w.heap.size 56 i0 (.agg #[.int .i64 0]) 1 Tryz.underlying29 hI.out.1 hI.out.2.1 hI.out.2.2.1 .i64 .i64 _ (n + 12) rfl rfl (by omega) (by rw [hI.out.2.2.2]; omega) (by unfold maxLen; omega) (Nat.le_refl _) ?_; intro w1 hown hg1; have hs1 := hg1.size)
    | (at_builtin; refine wpList_append_fits_any _ rfl (.tmp 9) (.tmp 10) 29 rfl w.heap.size 56 i0 1 Tryz.underlying29 hI.out.1 hI.out.2.2.1 w.heap.size 0 (n + 12) [] rfl hown A n c (i64s zs) rfl (by rw [i64s_length, h'.out.len, Nat.mul_one]) hnil'.out ((h'.out.fresh ((Turned.refl (fun _ => False) w).grown hg1 (fun k e => by cases e))).news) (i64s_one zs) (by omega) ?_; intro w2 hown2 hg2))
  have hr2 : RowI w2 56 w.heap.size (n + 0) (n + 12) (zs ++ marksI 1 0) := by
    simp only [Nat.zero_add, List.nil_append] at hown2
    rw [show marksI 1 0 = [] from rfl, List.append_nil, Nat.add_zero]
    exact RowI.of_own hown2
  have ht2 : Turned (fun _ => False) w w2 := ((Turned.refl (fun _ => False) w).grown hg1 (fun k e => by cases e)).grown hg2 (fun k e => by injection e with e; exact .inr (Nat.le_of_eq e))
  clear hown hown2 hg1 hg2
  go_loopw [3, 4] (fun v i wr => LentFRel n zs w v i wr) (fun _ i _ => 12 - (intOf i).toNat)
  case atStart => exact ⟨0, by omega, rfl, by simp, hr2, ht2⟩
  case round =>
    obtain ⟨j, hj, rfl, rfl, hr, ht⟩ := hrel
    have hr' := Lib.hid hr
    have hsz := hr.lt
    clear hr hr2 ht2 hs1
    by_cases hlt : j < 12
    · have hji : (j : Int) < 12 := by omega
      go_wp2_with (first
        | (go_at_call 44; refine (markFate_any 1 (j : Int) _ (by omega) (by omega) (by omega) (by omega)).mono ?_; rintro e w3 ⟨rfl, ht3⟩)
        | (at_builtin; refine wpList_append_fits_any _ rfl (.tmp 16) (.tmp 19) 29 rfl w.heap.size 56 i0 1 Tryz.underlying29 hI.out.1 hI.out.2.2.1 w.heap.size (n + j) (n + 12) (i64s (zs ++ marksI 1 j)) rfl (((hr'.out.turned ht3 (fun e => e)).own (Nat.le_refl _)).alloc _) (some ⟨w3.heap.size, 0, none⟩) 1 1 [.int .i64 (mkI 1 j)] rfl rfl (fun e => by cases e) (fun ad e => by injection e with e; subst e; exact cell_one_new _ _ _) (by simp [Value.oneCell']) (by omega) ?_; intro w4 hown4 hg4))
      have hr4 : RowI w4 56 w.heap.size (n + (j + 1)) (n + 12) (zs ++ marksI 1 (j + 1)) := by
        rw [marksI_succ, ← List.append_assoc, ← Nat.add_assoc]
        refine RowI.of_own (base := w.heap.size) ?_
        have : i64s ((zs ++ marksI 1 j) ++ [mkI 1 j]) = i64s (zs ++ marksI 1 j) ++ [Value.int .i64 (mkI 1 j)] := by simp [i64s]
        rw [this]
        exact hown4
      have ht4 : Turned (fun _ => False) w w4 := ((ht.trans (W := fun _ => False) ht3 (fun _ e => e) (fun _ e => e.elim)).alloc _).grown hg4 (fun k e => by injection e with e; exact .inr (Nat.le_of_eq e))
      exact ⟨⟨j + 1, by omega, by go_num, by rw [Nat.add_assoc], hr4, ht4⟩, by simp [intOf]; omega⟩
    · have hj12 : j = 12 := by omega
      subst hj12
      go_wp2
      go_ret
      exact ⟨w.heap.size, rfl, hr'.out, Nat.le_refl _, ht⟩

def KeptFRel (n : Nat) (w : World) (i : Value) (wr : World) : Prop := ∃ j : Nat, j ≤ n + 12 ∧ i = .int .i64 j ∧ Turned (fun _ => False) w wr
set_option maxRecDepth 100000 in
set_option maxHeartbeats 400000 in
theorem kept_fates (A : Option Addr) (n c B g cap : Nat) (zs : List Int) (w : World) (hr : RowI w 56 g (n + 12) cap (zs ++ marksI 1 12)) (hy : FatesR w B A n zs) (hn : n ≤ 1000000) :
    Calls Tryz.prog 32 #[.slice (some ⟨g, 0, none⟩) n cap, .slice A n c] w (RetNew (.bool true) w) := by
  have hle := hr.le
  have hmx := hr.max
  unfold maxLen at hmx
  have hr' := Lib.hid hr
  have hy' := Lib.hid hy
  have hl := Lib.hid hy.len
  clear hr hy
  go_enter Tryz.func32, Tryz.ntmps32
  go_wp2
  go_loopw [6] (fun i wr => KeptFRel n w i wr) (fun i _ => n + 12 - (intOf i).toNat)
  case atStart => exact ⟨0, by omega, rfl, Turned.refl _ _⟩
  case round =>
    obtain ⟨j, hj, rfl, ht⟩ := hrel
    by_cases hlt : j < n + 12
    · have hji : (j : Int) < (n : Int) + 12 := by omega
      have q1 := (hr'.out.turned ht (fun e => e)).cell hlt
      by_cases hjn : j < n
      · obtain ⟨b2, o2, rfl, _, k2⟩ := (hy'.out.fresh ht).cell (by omega)
        have q2 := k2 j hjn
        have hjl : (j : Int) < (n : Int) := by omega
        have hd1 : decide ((j : Int) < (n : Int)) = true := by simp; omega
        have hd2 : decide ((n : Int) ≤ (j : Int)) = false := by simp; omega
        have hd3 : decide (n ≤ j) = false := by simp; omega
        have hd4 : decide (j < n) = true := by simp; omega
        rw [getD_app_l _ _ _ _ (by rw [hl.out]; exact hjn)] at q1
        generalize zs.getD j 0 = x at q1 q2
        clear k2
        go_wp2
        go_quiet (fail)
        go_wp2
        go_roundw
        case rel =>
          first
          | exact ⟨j + 1, by omega, by go_num, ht.drewN _⟩
          | ((repeat apply Exists.intro); exact ⟨⟨j + 1, by omega, by go_num, ht.drewN _⟩, rfl⟩)
        case measure => simp [intOf]; omega
      · have hd1 : decide ((j : Int) < (n : Int)) = false := by simp; omega
        have hd2 : decide ((n : Int) ≤ (j : Int)) = true := by simp; omega
        have hd3 : decide (n ≤ j) = true := by simp; omega
        have hd4 : decide (j < n) = false := by simp; omega
        have hnj : (n : Int) ≤ (j : Int) := by omega
        rw [getD_app_r _ _ _ _ (by rw [hl.out]; omega), hl.out, marksI_getD _ _ _ (by omega)] at q1
        rw [show (((j - n : Nat) : Nat) : Int) = (j : Int) - (n : Int) by omega] at q1
        have b0 : (0 : Int) ≤ (j : Int) - (n : Int) := by omega
        have b1 : (j : Int) - (n : Int) ≤ 10000000 := by omega
        have hsub : IntKind.i64.wrap ((j : Int) - (n : Int)) = (j : Int) - (n : Int) := IntWalk.i64_in _ (by omega)
        go_wp2
        refine wp_region_order (fun w' => w'.cell? ⟨g, j, none⟩ = some (.int .i64 (mkI 1 ((j : Int) - (n : Int)))) ∧ Turned (fun _ => False) wr w') (List.range 30) [30, 31, 32, 33, 34] mixed (by kernel_rfl) (fun _ _ _ _ _ h => h) ⟨q1, (Turned.refl _ wr).drew⟩ ?_
        simp only [pickOps, List.range, List.range.loop, List.filterMap_cons, List.filterMap_nil, List.getElem?_cons_zero, List.getElem?_cons_succ]
        iterate 30 (first
          | (refine wpHead_skip rfl ?_; try simp only [Act.put, List.setIfInBounds_toArray, List.set_cons_zero, List.set_cons_succ])
          | (refine wpHead_run (v := ?_) rfl (fun w' hw => ?_) ?_; rotate_left; (obtain ⟨hw, _⟩ := hw; go_simp; try with_reducible rfl); try simp only [Act.put, List.setIfInBounds_toArray, List.set_cons_zero, List.set_cons_succ]))
        refine wpHead_nil ?_
        refine wpSeqS_run rfl (fun K hK => ?_)
        go_simp
        refine (markFate_any 1 ((j : Int) - (n : Int)) _ (by decide) (by decide) b0 b1).mono ?_
        rintro e w3 ⟨rfl, ht3⟩
        have ht3 : Turned (fun _ => False) wr w3 := ⟨ht3.os, ht3.tape, ht3.output, ht3.size, ht3.block⟩
        have hS3 := And.intro (cell_turned ht3 q1 (fun e => e)) ht3
        have ht4 := ht.trans (W := fun _ => False) ht3 (fun _ e => e) (fun _ e => e.elim)
        refine hK.out _ _ hS3 ?_
        clear hK K
        iterate 4 (refine wpSeqS_run rfl (fun K hK => ?_); go_simp; refine hK.out _ _ hS3 ?_; clear hK K)
        refine wpSeqS_nil ?_
        clear hsub hS3
        go_wp2
        go_roundw
        case rel =>
          first
          | exact ⟨j + 1, by omega, by go_num, ht4⟩
          | ((repeat apply Exists.intro); exact ⟨⟨j + 1, by omega, by go_num, ht4⟩, rfl⟩)
        case measure => simp [intOf]; omega
    · have hge : (n : Int) + 12 ≤ (j : Int) := by omega
      go_wp2
      go_ret
      exact ⟨rfl, ht⟩
end Go.Proofs.YtmblonmpiomjgaaGreat
