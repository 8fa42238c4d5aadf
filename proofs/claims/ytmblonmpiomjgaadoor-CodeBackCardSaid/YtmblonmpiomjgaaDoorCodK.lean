/-
  CodeBack's walk. Conditions: three variables of the library's hold what their initialisers lay.
-/
import Derived.Test.YtmblonmpiomjgaaDoorCodJ
import Derived.Test.YtmblonmpiomjgaaDoorRegB
import Derived.Test.YtmblonmpiomjgaaDoorOpB
import Derived.Lib.ItoaLen
namespace Go.Proofs.YtmblonmpiomjgaaDoor
open Go.RowKit Go.Maps
set_option linter.unusedVariables false

theorem OwnV.bytS {w : World} {A : Option Addr} {n c : Nat} {zs : List Int} (h : OwnV w A n c zs) : BytS w A n c zs := ⟨h.bytR, fun e => by
  rcases h.row_or with ⟨_, h1, h2, _⟩ | ⟨g, h1, _⟩
  · exact ⟨h1, h2⟩
  · rw [h1] at e; cases e⟩
theorem BytR.cut {w : World} {A : Option Addr} {n k : Nat} {zs : List Int} (h : BytR w A n zs) (hk : k ≤ n) : BytR w A k (zs.take k) :=
  ⟨by rw [List.length_take, h.len]; omega, Nat.le_trans hk h.max, fun h0 => by
    obtain ⟨b, off, e, hc⟩ := h.cell (by omega)
    exact ⟨b, off, e, fun j hj => by rw [take_getD _ _ _ hj]; exact hc j (by omega)⟩⟩
theorem ba_mk (s : ByteArray) : (⟨s.data.toList.toArray⟩ : ByteArray) = s := by
  cases s
  simp
theorem numL_int64 (l : List UInt8) : int64 ((numL l).getD 0) := by
  cases h : numL l with
  | some v => exact (numL_some h).2
  | none => unfold int64; simp
theorem app3_T {w w0 w' : World} {g c c' : Nat} {A' : Option Addr} (ht : Turned (fun _ => False) w0 w) (hg : w0.heap.size ≤ g) (h : (A' = some (⟨g, 0, none⟩ : Addr) ∧ c' = c ∧ (some (⟨g, 0, none⟩ : Addr)) ≠ none ∧ Turned (fun g' => some (⟨g, 0, none⟩ : Addr) = some ⟨g', 0, none⟩) w w') ∨ (A' = some ⟨w.heap.size, 0, none⟩ ∧ Turned (fun _ => False) w w')) : Turned (fun _ => False) w0 w' := by
  rcases h with ⟨_, _, _, h⟩ | ⟨_, h⟩
  · exact ht.trans h (fun _ e => e) (fun k e => .inr (by injection e with e; injection e with e; omega))
  · exact ht.trans h (fun _ e => e) (fun _ e => e.elim)

set_option maxRecDepth 100000 in
set_option maxHeartbeats 4000000 in
theorem codeBack_E (s : ByteArray) (A : Option Addr) (n c : Nat) (zs : List Int) (x : Int) (w : World) (hv : VarsOk w) (hs : s.size ≤ 100000) (hn : s.size + n ≤ 100000) (hy : BytS w A n c zs) (hb : ∀ z ∈ zs, isByte z) (hnc : n ≤ c) (hcm : c ≤ maxLen) (hx : int64 x)
    (hc : s = ⟨#[]⟩) :
    Calls Tryd.prog 4 #[.string s, .slice A n c, .int .i64 x] w (OkNew w) := by
  have hi : (s.size : Int) + (n : Int) ≤ 100000 := by omega
  have hy' := Lib.hid hy
  have hb' := Lib.hid hb
  have Hp := Lib.hid (fun (w : World) => put_any s w (by omega))
  have Hr := Lib.hid (fun (w : World) => right_any s w (by omega))
  have hok : putOk s.data.toList = true := by rw [hc]; rfl
  have hpl : (putL s.data.toList).length = s.size + 1 := by rw [putL_ok hok, List.length_cons, ints_length, ba_size]
  have Hpl := Lib.hid hpl
  have Hgp := Lib.hid (get_put hok zs)
  have hs1 : s.toList = [] := by rw [hc, ByteArray.toList_eq]
  have hs2 : s.toList.isEmpty = true := by rw [hs1]; rfl
  clear hok hy hb hpl
  clear hc
  have Htx := Lib.hid (fun (w : World) (hv : VarsOk w) => text_any x w hv hx)
  have Hn1 := Lib.hid (fun (w : World) (hv : VarsOk w) => (number_any ⟨(Lib.itoa x).toArray⟩ w hv (by
    have := Lib.itoa_length_le x hx.1 hx.2
    simp [ByteArray.size]
    omega)))
  have Hn2 := Lib.hid (fun (w : World) (hv : VarsOk w) => number_any s w hv (by omega))
  have Ht2 := Lib.hid (fun (w : World) (hv : VarsOk w) => text_any ((numL s.data.toList).getD 0) w hv (numL_int64 _))
  have hse := str_eq_iff ⟨(Lib.itoa ((numL s.data.toList).getD 0)).toArray⟩ s
  rw [show (⟨(Lib.itoa ((numL s.data.toList).getD 0)).toArray⟩ : ByteArray).data.toList = Lib.itoa ((numL s.data.toList).getD 0) by simp, ← numL_says s.data.toList] at hse
  rw [show (⟨(Lib.itoa x).toArray⟩ : ByteArray).data.toList = Lib.itoa x by simp, numL_itoa x hx] at Hn1
  unfold NumPost at Hn1 Hn2
  unfold StrNew at Ht2
  generalize (⟨(Lib.itoa ((numL s.data.toList).getD 0)).toArray⟩ : ByteArray) = str2 at hse Ht2
  generalize (numL s.data.toList).getD 0 = xv at Hn2 Ht2
  generalize (numL s.data.toList).isSome = bb at hse Hn2
  have hse' := Lib.hid hse
  clear hse
  go_enter Tryd.func4, Tryd.ntmps4
  go_wp2_with fail
  refine (awake03_any _ hv).mono ?_
  rintro e w1 ⟨rfl, t1⟩
  have T1 := Lib.hid t1
  clear t1
  go_wp2_with fail
  refine (Hp.out _).mono ?_
  rintro e w2 ⟨A2, c2, rfl, o2, g2, t2⟩
  have T2 := Lib.hid (T1.out.trans (W := fun _ => False) t2 (fun _ e => e) (fun _ e => e.elim))
  rw [Hpl.out] at o2 ⊢
  have o2' := Lib.hid o2
  clear o2 g2 t2 T1
  have T3 := T2
  have o3' := o2'
  clear T2 o2'
  go_wp2_with fail
  refine (copy_any _ _ _ _ _ o3'.out.bytS (by omega) (by omega)).mono ?_
  rintro e w4 ⟨A4, c4, rfl, o4, g4, t4⟩
  rw [Hpl.out] at o4 ⊢
  obtain ⟨ga, rfl, r4⟩ := o4.some_ (by omega)
  have T4 := Lib.hid (T3.out.trans (W := fun _ => False) t4 (fun _ e => e) (fun _ e => e.elim))
  have G4 := Lib.hid (Nat.le_trans T3.out.size (g4 ga rfl))
  have o4' := Lib.hid o4
  clear o4 g4 t4 r4
  go_wp2_with (at_builtin; refine wpList_app3 bytT rfl (.tmp 43) (.tmp 44) rfl o4'.out (hy'.out.turnedF T4.out) (by omega) rfl rfl ?_; intro A5 c5 w5 o5 hor5)
  have T5 := Lib.hid (app3_T T4.out G4.out hor5)
  have o5' := Lib.hid o5
  clear o5 hor5
  have hg5 := get_any A5 (s.size + 1 + n) c5 (putL s.data.toList ++ zs) w5 o5'.out.bytR (fun z hz => (List.mem_append.1 hz).elim (putL_byte _ z) (hb'.out z)) o5'.out.max.1 o5'.out.max.2
  rw [Hgp.out] at hg5
  unfold GetPost at hg5
  simp only at hg5
  rw [ba_mk, ba_size] at hg5
  refine hg5.mono ?_
  clear hg5
  rintro e w6 ⟨rfl, t6⟩
  have T6 := Lib.hid (T5.out.trans (W := fun _ => False) t6 (fun _ e => e) (fun _ e => e.elim))
  clear t6 T5 o5' T4 o4' G4
  clear T3
  go_wp2_with fail
  have hg7 := get_any A n c zs _ (hy'.out.turnedF T6.out).toBytR hb'.out hnc hcm
  refine hg7.mono ?_
  clear hg7
  unfold GetPost
  cases hgl : getL zs with
  | none =>
    clear hgl
    simp only
    rintro e w7 ⟨rfl, t7⟩
    have T7 := Lib.hid (T6.out.trans (W := fun _ => False) t7 (fun _ e => e) (fun _ e => e.elim))
    clear t7 T6
    go_wp2_with fail
    refine wp_region_segs (fun _ => True) (segT [0, 1, 2, 3, 4, 5, 6, 7, 8, 9, 10, 11, 13, 14, 15] ++ segF [12, 16] ++ segT [17, 18, 19, 20, 21, 22, 23, 24, 25, 26, 27, 28, 29, 30, 31]) mixed (by kernel_rfl) (fun _ _ _ _ _ h => h) ?_
    simp only [segT, segF, pickSegs, List.map_cons, List.map_nil, List.cons_append, List.nil_append, List.filterMap_cons, List.filterMap_nil, List.getElem?_cons_zero, List.getElem?_cons_succ, Option.map_some]
    iterate 11 (first
      | (refine wpSegs_take (v := ?_) trivial rfl (fun w' hw => ?_) ?_; rotate_left; (go_simp; try with_reducible rfl); try simp only [Act.put, List.setIfInBounds_toArray, List.set_cons_zero, List.set_cons_succ])
      | (refine wpSegs_skip trivial rfl ?_; try simp only [Act.put, List.setIfInBounds_toArray, List.set_cons_zero, List.set_cons_succ]))
    iterate 4 (first
      | (refine wpSegs_take (v := ?_) trivial rfl (fun w' hw => ?_) ?_; rotate_left; (go_simp; try with_reducible rfl); try simp only [Act.put, List.setIfInBounds_toArray, List.set_cons_zero, List.set_cons_succ])
      | (refine wpSegs_skip trivial rfl ?_; try simp only [Act.put, List.setIfInBounds_toArray, List.set_cons_zero, List.set_cons_succ]))
    refine wpSegs_runSkip trivial rfl ?_
    try simp only [Act.put, List.setIfInBounds_toArray, List.set_cons_zero, List.set_cons_succ]
    refine wpSegs_runSkip trivial rfl ?_
    try simp only [Act.put, List.setIfInBounds_toArray, List.set_cons_zero, List.set_cons_succ]
    iterate 15 (first
      | (refine wpSegs_take (v := ?_) trivial rfl (fun w' hw => ?_) ?_; rotate_left; (go_simp; try with_reducible rfl); try simp only [Act.put, List.setIfInBounds_toArray, List.set_cons_zero, List.set_cons_succ])
      | (refine wpSegs_skip trivial rfl ?_; try simp only [Act.put, List.setIfInBounds_toArray, List.set_cons_zero, List.set_cons_succ]))
    refine wpSegs_nil ?_
    have TZ := Lib.hid T7.out.drew
    clear T7
    go_wp2_with fail
    refine (Htx.out _ (hv.turned TZ.out)).mono ?_
    rintro e wa ⟨rfl, ta⟩
    have Ta := Lib.hid (TZ.out.trans (W := fun _ => False) ta (fun _ e => e) (fun _ e => e.elim))
    clear ta TZ
    go_wp2_with fail
    refine (Hn1.out _ (hv.turned Ta.out)).mono ?_
    rintro e wb ⟨rfl, tb⟩
    have Tb := Lib.hid (Ta.out.trans (W := fun _ => False) tb (fun _ e => e) (fun _ e => e.elim))
    clear tb Ta
    go_wp2_with fail
    refine (Hn2.out _ (hv.turned Tb.out)).mono ?_
    rintro e wc ⟨rfl, tc⟩
    have Tc := Lib.hid (Tb.out.trans (W := fun _ => False) tc (fun _ e => e) (fun _ e => e.elim))
    clear tc Tb
    go_wp2_with fail
    refine (Ht2.out _ (hv.turned Tc.out)).mono ?_
    rintro e wd ⟨rfl, td⟩
    have Td := Lib.hid (Tc.out.trans (W := fun _ => False) td (fun _ e => e) (fun _ e => e.elim))
    clear td Tc
    have hse := hse'.out
    clear hs1 hs2
    go_wp2_with fail
    go_ret
    exact ⟨rfl, Td.out⟩
  | some l2 =>
    obtain ⟨hp1, hp2, hp3⟩ := put_get hb'.out hgl
    rw [hy'.out.len] at hp2
    clear hgl
    simp only
    rw [show (1 + (l2.length : Int)) = ((1 + l2.length : Nat) : Int) by omega]
    have hk1 : 1 ≤ 1 + l2.length := by omega
    have Hp2 := Lib.hid (fun (w : World) => put_any ⟨l2.toArray⟩ w (by have := putOk_len hp1; simp [ByteArray.size]; omega))
    rw [show (⟨l2.toArray⟩ : ByteArray).data.toList = l2 by simp, hp3] at Hp2
    unfold PutPost at Hp2
    have hlk : (zs.take (1 + l2.length)).length = 1 + l2.length := by rw [List.length_take, hy'.out.len]; omega
    rw [hlk] at Hp2
    generalize (⟨l2.toArray⟩ : ByteArray) = str3 at Hp2 ⊢
    generalize 1 + l2.length = k2 at hp2 hk1 Hp2 hlk ⊢
    obtain ⟨b, off, rfl, hcell⟩ := hy'.out.cell (by omega)
    have hlk' := Lib.hid hlk
    have hcell' := Lib.hid (hy'.out.toBytR)
    have hq1 : (1 : Int) ≤ (k2 : Int) := by omega
    have hq2 : (k2 : Int) ≤ (n : Int) := by omega
    have hq3 : (k2 : Int) ≤ (c : Int) := by omega
    have hd1 : decide ((k2 : Int) < 1) = false := decide_eq_false (by omega)
    have hd2 : decide ((n : Int) < (k2 : Int)) = false := decide_eq_false (by omega)
    have hd3 : decide (n < k2) = false := decide_eq_false (by omega)
    have hd4 : decide (k2 < 1) = false := decide_eq_false (by omega)
    have hd5 : ¬ n < k2 := by omega
    have hd6 : ¬ k2 < 1 := by omega
    have hd7 : ¬ k2 = 0 := by omega
    clear hp1 hp3 hlk hcell
    rintro e w7 ⟨rfl, t7⟩
    have T7 := Lib.hid (T6.out.trans (W := fun _ => False) t7 (fun _ e => e) (fun _ e => e.elim))
    clear t7 T6
    go_wp2_with fail
    refine wp_region_segs (fun _ => True) (segT [0, 1, 2, 3, 4, 5, 6, 7, 8, 9, 10, 11, 13, 14, 15] ++ segF [12, 16] ++ segT [17, 18, 19, 20, 21, 22, 23, 24, 25, 26, 27, 28, 29, 30, 31]) mixed (by kernel_rfl) (fun _ _ _ _ _ h => h) ?_
    simp only [segT, segF, pickSegs, List.map_cons, List.map_nil, List.cons_append, List.nil_append, List.filterMap_cons, List.filterMap_nil, List.getElem?_cons_zero, List.getElem?_cons_succ, Option.map_some]
    iterate 11 (first
      | (refine wpSegs_take (v := ?_) trivial rfl (fun w' hw => ?_) ?_; rotate_left; (go_simp; try with_reducible rfl); try simp only [Act.put, List.setIfInBounds_toArray, List.set_cons_zero, List.set_cons_succ])
      | (refine wpSegs_skip trivial rfl ?_; try simp only [Act.put, List.setIfInBounds_toArray, List.set_cons_zero, List.set_cons_succ]))
    iterate 4 (first
      | (refine wpSegs_take (v := ?_) trivial rfl (fun w' hw => ?_) ?_; rotate_left; (go_simp; try with_reducible rfl); try simp only [Act.put, List.setIfInBounds_toArray, List.set_cons_zero, List.set_cons_succ])
      | (refine wpSegs_skip trivial rfl ?_; try simp only [Act.put, List.setIfInBounds_toArray, List.set_cons_zero, List.set_cons_succ]))
    refine wpSegs_run rfl (fun K hK => ?_)
    go_simp
    refine (Hp2.out _).mono ?_
    rintro e w8 ⟨A8, c8, rfl, o8, _, t8⟩
    refine hK.out _ _ trivial ?_
    clear hK K
    have T8 := Lib.hid (T7.out.drew.trans (W := fun _ => False) t8 (fun _ e => e) (fun _ e => e.elim))
    have o8' := Lib.hid o8
    clear o8 t8 T7
    try simp only [Act.put, List.setIfInBounds_toArray, List.set_cons_zero, List.set_cons_succ]
    refine wpSegs_run rfl (fun K hK => ?_)
    go_simp
    refine (same_yes _ _ _ _ _ _ _ _ _ o8'.out.bytR ((hcell'.out.turnedF T8.out).cut (k := k2) (by omega)) rfl).mono ?_
    rintro e w9 ⟨rfl, nq, rfl⟩
    refine hK.out _ _ trivial ?_
    clear hK K
    have TZ := Lib.hid (T8.out.drewN nq)
    clear o8' T8
    try simp only [Act.put, List.setIfInBounds_toArray, List.set_cons_zero, List.set_cons_succ]
    iterate 15 (first
      | (refine wpSegs_take (v := ?_) trivial rfl (fun w' hw => ?_) ?_; rotate_left; (go_simp; try with_reducible rfl); try simp only [Act.put, List.setIfInBounds_toArray, List.set_cons_zero, List.set_cons_succ])
      | (refine wpSegs_skip trivial rfl ?_; try simp only [Act.put, List.setIfInBounds_toArray, List.set_cons_zero, List.set_cons_succ]))
    refine wpSegs_nil ?_
    go_wp2_with fail
    refine (Htx.out _ (hv.turned TZ.out)).mono ?_
    rintro e wa ⟨rfl, ta⟩
    have Ta := Lib.hid (TZ.out.trans (W := fun _ => False) ta (fun _ e => e) (fun _ e => e.elim))
    clear ta TZ
    go_wp2_with fail
    refine (Hn1.out _ (hv.turned Ta.out)).mono ?_
    rintro e wb ⟨rfl, tb⟩
    have Tb := Lib.hid (Ta.out.trans (W := fun _ => False) tb (fun _ e => e) (fun _ e => e.elim))
    clear tb Ta
    go_wp2_with fail
    refine (Hn2.out _ (hv.turned Tb.out)).mono ?_
    rintro e wc ⟨rfl, tc⟩
    have Tc := Lib.hid (Tb.out.trans (W := fun _ => False) tc (fun _ e => e) (fun _ e => e.elim))
    clear tc Tb
    go_wp2_with fail
    refine (Ht2.out _ (hv.turned Tc.out)).mono ?_
    rintro e wd ⟨rfl, td⟩
    have Td := Lib.hid (Tc.out.trans (W := fun _ => False) td (fun _ e => e) (fun _ e => e.elim))
    clear td Tc
    have hse := hse'.out
    clear hs1 hs2
    go_wp2_with fail
    go_ret
    exact ⟨rfl, Td.out⟩

set_option maxRecDepth 100000 in
set_option maxHeartbeats 4000000 in
theorem codeBack_Y (s : ByteArray) (A : Option Addr) (n c : Nat) (zs : List Int) (x : Int) (w : World) (hv : VarsOk w) (hs : s.size ≤ 100000) (hn : s.size + n ≤ 100000) (hy : BytS w A n c zs) (hb : ∀ z ∈ zs, isByte z) (hnc : n ≤ c) (hcm : c ≤ maxLen) (hx : int64 x)
    (hc : 0 < s.size ∧ codeL s.data.toList = true) :
    Calls Tryd.prog 4 #[.string s, .slice A n c, .int .i64 x] w (OkNew w) := by
  have hi : (s.size : Int) + (n : Int) ≤ 100000 := by omega
  have hy' := Lib.hid hy
  have hb' := Lib.hid hb
  have Hp := Lib.hid (fun (w : World) => put_any s w (by omega))
  have Hr := Lib.hid (fun (w : World) => right_any s w (by omega))
  have hok : putOk s.data.toList = true := by unfold putOk; rw [hc.2, Bool.or_true]
  obtain ⟨hs1, hs2⟩ := ba_ne hc.1
  rw [hc.2] at Hr
  have hpl : (putL s.data.toList).length = s.size + 1 := by rw [putL_ok hok, List.length_cons, ints_length, ba_size]
  have Hpl := Lib.hid hpl
  have Hgp := Lib.hid (get_put hok zs)
  clear hok hy hb hpl
  clear hc
  have Htx := Lib.hid (fun (w : World) (hv : VarsOk w) => text_any x w hv hx)
  have Hn1 := Lib.hid (fun (w : World) (hv : VarsOk w) => (number_any ⟨(Lib.itoa x).toArray⟩ w hv (by
    have := Lib.itoa_length_le x hx.1 hx.2
    simp [ByteArray.size]
    omega)))
  have Hn2 := Lib.hid (fun (w : World) (hv : VarsOk w) => number_any s w hv (by omega))
  have Ht2 := Lib.hid (fun (w : World) (hv : VarsOk w) => text_any ((numL s.data.toList).getD 0) w hv (numL_int64 _))
  have hse := str_eq_iff ⟨(Lib.itoa ((numL s.data.toList).getD 0)).toArray⟩ s
  rw [show (⟨(Lib.itoa ((numL s.data.toList).getD 0)).toArray⟩ : ByteArray).data.toList = Lib.itoa ((numL s.data.toList).getD 0) by simp, ← numL_says s.data.toList] at hse
  rw [show (⟨(Lib.itoa x).toArray⟩ : ByteArray).data.toList = Lib.itoa x by simp, numL_itoa x hx] at Hn1
  unfold NumPost at Hn1 Hn2
  unfold StrNew at Ht2
  generalize (⟨(Lib.itoa ((numL s.data.toList).getD 0)).toArray⟩ : ByteArray) = str2 at hse Ht2
  generalize (numL s.data.toList).getD 0 = xv at Hn2 Ht2
  generalize (numL s.data.toList).isSome = bb at hse Hn2
  have hse' := Lib.hid hse
  clear hse
  go_enter Tryd.func4, Tryd.ntmps4
  go_wp2_with fail
  refine (awake03_any _ hv).mono ?_
  rintro e w1 ⟨rfl, t1⟩
  have T1 := Lib.hid t1
  clear t1
  go_wp2_with fail
  refine (Hp.out _).mono ?_
  rintro e w2 ⟨A2, c2, rfl, o2, g2, t2⟩
  have T2 := Lib.hid (T1.out.trans (W := fun _ => False) t2 (fun _ e => e) (fun _ e => e.elim))
  rw [Hpl.out] at o2 ⊢
  have o2' := Lib.hid o2
  clear o2 g2 t2 T1
  go_wp2_with fail
  refine (Hr.out _).mono ?_
  rintro e w3 ⟨rfl, t3⟩
  have T3 := Lib.hid (T2.out.trans (W := fun _ => False) t3 (fun _ e => e) (fun _ e => e.elim))
  have o3' := Lib.hid (o2'.out.turned t3 (fun _ _ e => e))
  clear t3 T2 o2'
  go_wp2_with fail
  refine (copy_any _ _ _ _ _ o3'.out.bytS (by omega) (by omega)).mono ?_
  rintro e w4 ⟨A4, c4, rfl, o4, g4, t4⟩
  rw [Hpl.out] at o4 ⊢
  obtain ⟨ga, rfl, r4⟩ := o4.some_ (by omega)
  have T4 := Lib.hid (T3.out.trans (W := fun _ => False) t4 (fun _ e => e) (fun _ e => e.elim))
  have G4 := Lib.hid (Nat.le_trans T3.out.size (g4 ga rfl))
  have o4' := Lib.hid o4
  clear o4 g4 t4 r4
  go_wp2_with (at_builtin; refine wpList_app3 bytT rfl (.tmp 43) (.tmp 44) rfl o4'.out (hy'.out.turnedF T4.out) (by omega) rfl rfl ?_; intro A5 c5 w5 o5 hor5)
  have T5 := Lib.hid (app3_T T4.out G4.out hor5)
  have o5' := Lib.hid o5
  clear o5 hor5
  have hg5 := get_any A5 (s.size + 1 + n) c5 (putL s.data.toList ++ zs) w5 o5'.out.bytR (fun z hz => (List.mem_append.1 hz).elim (putL_byte _ z) (hb'.out z)) o5'.out.max.1 o5'.out.max.2
  rw [Hgp.out] at hg5
  unfold GetPost at hg5
  simp only at hg5
  rw [ba_mk, ba_size] at hg5
  refine hg5.mono ?_
  clear hg5
  rintro e w6 ⟨rfl, t6⟩
  have T6 := Lib.hid (T5.out.trans (W := fun _ => False) t6 (fun _ e => e) (fun _ e => e.elim))
  clear t6 T5 o5' T4 o4' G4
  clear T3
  go_wp2_with fail
  have hg7 := get_any A n c zs _ (hy'.out.turnedF T6.out).toBytR hb'.out hnc hcm
  refine hg7.mono ?_
  clear hg7
  unfold GetPost
  cases hgl : getL zs with
  | none =>
    clear hgl
    simp only
    rintro e w7 ⟨rfl, t7⟩
    have T7 := Lib.hid (T6.out.trans (W := fun _ => False) t7 (fun _ e => e) (fun _ e => e.elim))
    clear t7 T6
    go_wp2_with fail
    refine wp_region_segs (fun _ => True) (segT [0, 1, 2, 3, 4, 5, 6, 7, 8, 9, 10, 11, 13, 14, 15] ++ segF [12, 16] ++ segT [17, 18, 19, 20, 21, 22, 23, 24, 25, 26, 27, 28, 29, 30, 31]) mixed (by kernel_rfl) (fun _ _ _ _ _ h => h) ?_
    simp only [segT, segF, pickSegs, List.map_cons, List.map_nil, List.cons_append, List.nil_append, List.filterMap_cons, List.filterMap_nil, List.getElem?_cons_zero, List.getElem?_cons_succ, Option.map_some]
    iterate 11 (first
      | (refine wpSegs_take (v := ?_) trivial rfl (fun w' hw => ?_) ?_; rotate_left; (go_simp; try with_reducible rfl); try simp only [Act.put, List.setIfInBounds_toArray, List.set_cons_zero, List.set_cons_succ])
      | (refine wpSegs_skip trivial rfl ?_; try simp only [Act.put, List.setIfInBounds_toArray, List.set_cons_zero, List.set_cons_succ]))
    iterate 4 (first
      | (refine wpSegs_take (v := ?_) trivial rfl (fun w' hw => ?_) ?_; rotate_left; (go_simp; try with_reducible rfl); try simp only [Act.put, List.setIfInBounds_toArray, List.set_cons_zero, List.set_cons_succ])
      | (refine wpSegs_skip trivial rfl ?_; try simp only [Act.put, List.setIfInBounds_toArray, List.set_cons_zero, List.set_cons_succ]))
    refine wpSegs_runSkip trivial rfl ?_
    try simp only [Act.put, List.setIfInBounds_toArray, List.set_cons_zero, List.set_cons_succ]
    refine wpSegs_runSkip trivial rfl ?_
    try simp only [Act.put, List.setIfInBounds_toArray, List.set_cons_zero, List.set_cons_succ]
    iterate 15 (first
      | (refine wpSegs_take (v := ?_) trivial rfl (fun w' hw => ?_) ?_; rotate_left; (go_simp; try with_reducible rfl); try simp only [Act.put, List.setIfInBounds_toArray, List.set_cons_zero, List.set_cons_succ])
      | (refine wpSegs_skip trivial rfl ?_; try simp only [Act.put, List.setIfInBounds_toArray, List.set_cons_zero, List.set_cons_succ]))
    refine wpSegs_nil ?_
    have TZ := Lib.hid T7.out.drew
    clear T7
    go_wp2_with fail
    refine (Htx.out _ (hv.turned TZ.out)).mono ?_
    rintro e wa ⟨rfl, ta⟩
    have Ta := Lib.hid (TZ.out.trans (W := fun _ => False) ta (fun _ e => e) (fun _ e => e.elim))
    clear ta TZ
    go_wp2_with fail
    refine (Hn1.out _ (hv.turned Ta.out)).mono ?_
    rintro e wb ⟨rfl, tb⟩
    have Tb := Lib.hid (Ta.out.trans (W := fun _ => False) tb (fun _ e => e) (fun _ e => e.elim))
    clear tb Ta
    go_wp2_with fail
    refine (Hn2.out _ (hv.turned Tb.out)).mono ?_
    rintro e wc ⟨rfl, tc⟩
    have Tc := Lib.hid (Tb.out.trans (W := fun _ => False) tc (fun _ e => e) (fun _ e => e.elim))
    clear tc Tb
    go_wp2_with fail
    refine (Ht2.out _ (hv.turned Tc.out)).mono ?_
    rintro e wd ⟨rfl, td⟩
    have Td := Lib.hid (Tc.out.trans (W := fun _ => False) td (fun _ e => e) (fun _ e => e.elim))
    clear td Tc
    have hse := hse'.out
    clear hs1 hs2
    go_wp2_with fail
    go_ret
    exact ⟨rfl, Td.out⟩
  | some l2 =>
    obtain ⟨hp1, hp2, hp3⟩ := put_get hb'.out hgl
    rw [hy'.out.len] at hp2
    clear hgl
    simp only
    rw [show (1 + (l2.length : Int)) = ((1 + l2.length : Nat) : Int) by omega]
    have hk1 : 1 ≤ 1 + l2.length := by omega
    have Hp2 := Lib.hid (fun (w : World) => put_any ⟨l2.toArray⟩ w (by have := putOk_len hp1; simp [ByteArray.size]; omega))
    rw [show (⟨l2.toArray⟩ : ByteArray).data.toList = l2 by simp, hp3] at Hp2
    unfold PutPost at Hp2
    have hlk : (zs.take (1 + l2.length)).length = 1 + l2.length := by rw [List.length_take, hy'.out.len]; omega
    rw [hlk] at Hp2
    generalize (⟨l2.toArray⟩ : ByteArray) = str3 at Hp2 ⊢
    generalize 1 + l2.length = k2 at hp2 hk1 Hp2 hlk ⊢
    obtain ⟨b, off, rfl, hcell⟩ := hy'.out.cell (by omega)
    have hlk' := Lib.hid hlk
    have hcell' := Lib.hid (hy'.out.toBytR)
    have hq1 : (1 : Int) ≤ (k2 : Int) := by omega
    have hq2 : (k2 : Int) ≤ (n : Int) := by omega
    have hq3 : (k2 : Int) ≤ (c : Int) := by omega
    have hd1 : decide ((k2 : Int) < 1) = false := decide_eq_false (by omega)
    have hd2 : decide ((n : Int) < (k2 : Int)) = false := decide_eq_false (by omega)
    have hd3 : decide (n < k2) = false := decide_eq_false (by omega)
    have hd4 : decide (k2 < 1) = false := decide_eq_false (by omega)
    have hd5 : ¬ n < k2 := by omega
    have hd6 : ¬ k2 < 1 := by omega
    have hd7 : ¬ k2 = 0 := by omega
    clear hp1 hp3 hlk hcell
    rintro e w7 ⟨rfl, t7⟩
    have T7 := Lib.hid (T6.out.trans (W := fun _ => False) t7 (fun _ e => e) (fun _ e => e.elim))
    clear t7 T6
    go_wp2_with fail
    refine wp_region_segs (fun _ => True) (segT [0, 1, 2, 3, 4, 5, 6, 7, 8, 9, 10, 11, 13, 14, 15] ++ segF [12, 16] ++ segT [17, 18, 19, 20, 21, 22, 23, 24, 25, 26, 27, 28, 29, 30, 31]) mixed (by kernel_rfl) (fun _ _ _ _ _ h => h) ?_
    simp only [segT, segF, pickSegs, List.map_cons, List.map_nil, List.cons_append, List.nil_append, List.filterMap_cons, List.filterMap_nil, List.getElem?_cons_zero, List.getElem?_cons_succ, Option.map_some]
    iterate 11 (first
      | (refine wpSegs_take (v := ?_) trivial rfl (fun w' hw => ?_) ?_; rotate_left; (go_simp; try with_reducible rfl); try simp only [Act.put, List.setIfInBounds_toArray, List.set_cons_zero, List.set_cons_succ])
      | (refine wpSegs_skip trivial rfl ?_; try simp only [Act.put, List.setIfInBounds_toArray, List.set_cons_zero, List.set_cons_succ]))
    iterate 4 (first
      | (refine wpSegs_take (v := ?_) trivial rfl (fun w' hw => ?_) ?_; rotate_left; (go_simp; try with_reducible rfl); try simp only [Act.put, List.setIfInBounds_toArray, List.set_cons_zero, List.set_cons_succ])
      | (refine wpSegs_skip trivial rfl ?_; try simp only [Act.put, List.setIfInBounds_toArray, List.set_cons_zero, List.set_cons_succ]))
    refine wpSegs_run rfl (fun K hK => ?_)
    go_simp
    refine (Hp2.out _).mono ?_
    rintro e w8 ⟨A8, c8, rfl, o8, _, t8⟩
    refine hK.out _ _ trivial ?_
    clear hK K
    have T8 := Lib.hid (T7.out.drew.trans (W := fun _ => False) t8 (fun _ e => e) (fun _ e => e.elim))
    have o8' := Lib.hid o8
    clear o8 t8 T7
    try simp only [Act.put, List.setIfInBounds_toArray, List.set_cons_zero, List.set_cons_succ]
    refine wpSegs_run rfl (fun K hK => ?_)
    go_simp
    refine (same_yes _ _ _ _ _ _ _ _ _ o8'.out.bytR ((hcell'.out.turnedF T8.out).cut (k := k2) (by omega)) rfl).mono ?_
    rintro e w9 ⟨rfl, nq, rfl⟩
    refine hK.out _ _ trivial ?_
    clear hK K
    have TZ := Lib.hid (T8.out.drewN nq)
    clear o8' T8
    try simp only [Act.put, List.setIfInBounds_toArray, List.set_cons_zero, List.set_cons_succ]
    iterate 15 (first
      | (refine wpSegs_take (v := ?_) trivial rfl (fun w' hw => ?_) ?_; rotate_left; (go_simp; try with_reducible rfl); try simp only [Act.put, List.setIfInBounds_toArray, List.set_cons_zero, List.set_cons_succ])
      | (refine wpSegs_skip trivial rfl ?_; try simp only [Act.put, List.setIfInBounds_toArray, List.set_cons_zero, List.set_cons_succ]))
    refine wpSegs_nil ?_
    go_wp2_with fail
    refine (Htx.out _ (hv.turned TZ.out)).mono ?_
    rintro e wa ⟨rfl, ta⟩
    have Ta := Lib.hid (TZ.out.trans (W := fun _ => False) ta (fun _ e => e) (fun _ e => e.elim))
    clear ta TZ
    go_wp2_with fail
    refine (Hn1.out _ (hv.turned Ta.out)).mono ?_
    rintro e wb ⟨rfl, tb⟩
    have Tb := Lib.hid (Ta.out.trans (W := fun _ => False) tb (fun _ e => e) (fun _ e => e.elim))
    clear tb Ta
    go_wp2_with fail
    refine (Hn2.out _ (hv.turned Tb.out)).mono ?_
    rintro e wc ⟨rfl, tc⟩
    have Tc := Lib.hid (Tb.out.trans (W := fun _ => False) tc (fun _ e => e) (fun _ e => e.elim))
    clear tc Tb
    go_wp2_with fail
    refine (Ht2.out _ (hv.turned Tc.out)).mono ?_
    rintro e wd ⟨rfl, td⟩
    have Td := Lib.hid (Tc.out.trans (W := fun _ => False) td (fun _ e => e) (fun _ e => e.elim))
    clear td Tc
    have hse := hse'.out
    clear hs1 hs2
    go_wp2_with fail
    go_ret
    exact ⟨rfl, Td.out⟩

set_option maxRecDepth 100000 in
set_option maxHeartbeats 4000000 in
theorem codeBack_N (s : ByteArray) (A : Option Addr) (n c : Nat) (zs : List Int) (x : Int) (w : World) (hv : VarsOk w) (hs : s.size ≤ 100000) (hn : s.size + n ≤ 100000) (hy : BytS w A n c zs) (hb : ∀ z ∈ zs, isByte z) (hnc : n ≤ c) (hcm : c ≤ maxLen) (hx : int64 x)
    (hc : 0 < s.size ∧ codeL s.data.toList = false) :
    Calls Tryd.prog 4 #[.string s, .slice A n c, .int .i64 x] w (OkNew w) := by
  have hi : (s.size : Int) + (n : Int) ≤ 100000 := by omega
  have hy' := Lib.hid hy
  have hb' := Lib.hid hb
  have Hp := Lib.hid (fun (w : World) => put_any s w (by omega))
  have Hr := Lib.hid (fun (w : World) => right_any s w (by omega))
  have hok : putOk s.data.toList = false := by unfold putOk; rw [hc.2, Bool.or_false, decide_eq_false (by rw [ba_size]; omega)]
  obtain ⟨hs1, hs2⟩ := ba_ne hc.1
  rw [hc.2] at Hr
  rw [putL_no hok] at Hp
  clear hok hy hb
  clear hc
  have Htx := Lib.hid (fun (w : World) (hv : VarsOk w) => text_any x w hv hx)
  have Hn1 := Lib.hid (fun (w : World) (hv : VarsOk w) => (number_any ⟨(Lib.itoa x).toArray⟩ w hv (by
    have := Lib.itoa_length_le x hx.1 hx.2
    simp [ByteArray.size]
    omega)))
  have Hn2 := Lib.hid (fun (w : World) (hv : VarsOk w) => number_any s w hv (by omega))
  have Ht2 := Lib.hid (fun (w : World) (hv : VarsOk w) => text_any ((numL s.data.toList).getD 0) w hv (numL_int64 _))
  have hse := str_eq_iff ⟨(Lib.itoa ((numL s.data.toList).getD 0)).toArray⟩ s
  rw [show (⟨(Lib.itoa ((numL s.data.toList).getD 0)).toArray⟩ : ByteArray).data.toList = Lib.itoa ((numL s.data.toList).getD 0) by simp, ← numL_says s.data.toList] at hse
  rw [show (⟨(Lib.itoa x).toArray⟩ : ByteArray).data.toList = Lib.itoa x by simp, numL_itoa x hx] at Hn1
  unfold NumPost at Hn1 Hn2
  unfold StrNew at Ht2
  generalize (⟨(Lib.itoa ((numL s.data.toList).getD 0)).toArray⟩ : ByteArray) = str2 at hse Ht2
  generalize (numL s.data.toList).getD 0 = xv at Hn2 Ht2
  generalize (numL s.data.toList).isSome = bb at hse Hn2
  have hse' := Lib.hid hse
  clear hse
  go_enter Tryd.func4, Tryd.ntmps4
  go_wp2_with fail
  refine (awake03_any _ hv).mono ?_
  rintro e w1 ⟨rfl, t1⟩
  have T1 := Lib.hid t1
  clear t1
  go_wp2_with fail
  refine (Hp.out _).mono ?_
  rintro e w2 ⟨A2, c2, rfl, o2, g2, t2⟩
  have T2 := Lib.hid (T1.out.trans (W := fun _ => False) t2 (fun _ e => e) (fun _ e => e.elim))
  clear o2 g2 t2 T1
  go_wp2_with fail
  refine (Hr.out _).mono ?_
  rintro e w3 ⟨rfl, t3⟩
  have T3 := Lib.hid (T2.out.trans (W := fun _ => False) t3 (fun _ e => e) (fun _ e => e.elim))
  clear t3 T2
  have T6 := T3
  clear T3
  go_wp2_with fail
  have hg7 := get_any A n c zs _ (hy'.out.turnedF T6.out).toBytR hb'.out hnc hcm
  refine hg7.mono ?_
  clear hg7
  unfold GetPost
  cases hgl : getL zs with
  | none =>
    clear hgl
    simp only
    rintro e w7 ⟨rfl, t7⟩
    have T7 := Lib.hid (T6.out.trans (W := fun _ => False) t7 (fun _ e => e) (fun _ e => e.elim))
    clear t7 T6
    go_wp2_with fail
    refine wp_region_segs (fun _ => True) (segT [0, 1, 2, 3, 4, 5, 6, 7, 8, 9, 10, 11, 13, 14, 15] ++ segF [12, 16] ++ segT [17, 18, 19, 20, 21, 22, 23, 24, 25, 26, 27, 28, 29, 30, 31]) mixed (by kernel_rfl) (fun _ _ _ _ _ h => h) ?_
    simp only [segT, segF, pickSegs, List.map_cons, List.map_nil, List.cons_append, List.nil_append, List.filterMap_cons, List.filterMap_nil, List.getElem?_cons_zero, List.getElem?_cons_succ, Option.map_some]
    iterate 11 (first
      | (refine wpSegs_take (v := ?_) trivial rfl (fun w' hw => ?_) ?_; rotate_left; (go_simp; try with_reducible rfl); try simp only [Act.put, List.setIfInBounds_toArray, List.set_cons_zero, List.set_cons_succ])
      | (refine wpSegs_skip trivial rfl ?_; try simp only [Act.put, List.setIfInBounds_toArray, List.set_cons_zero, List.set_cons_succ]))
    iterate 4 (first
      | (refine wpSegs_take (v := ?_) trivial rfl (fun w' hw => ?_) ?_; rotate_left; (go_simp; try with_reducible rfl); try simp only [Act.put, List.setIfInBounds_toArray, List.set_cons_zero, List.set_cons_succ])
      | (refine wpSegs_skip trivial rfl ?_; try simp only [Act.put, List.setIfInBounds_toArray, List.set_cons_zero, List.set_cons_succ]))
    refine wpSegs_runSkip trivial rfl ?_
    try simp only [Act.put, List.setIfInBounds_toArray, List.set_cons_zero, List.set_cons_succ]
    refine wpSegs_runSkip trivial rfl ?_
    try simp only [Act.put, List.setIfInBounds_toArray, List.set_cons_zero, List.set_cons_succ]
    iterate 15 (first
      | (refine wpSegs_take (v := ?_) trivial rfl (fun w' hw => ?_) ?_; rotate_left; (go_simp; try with_reducible rfl); try simp only [Act.put, List.setIfInBounds_toArray, List.set_cons_zero, List.set_cons_succ])
      | (refine wpSegs_skip trivial rfl ?_; try simp only [Act.put, List.setIfInBounds_toArray, List.set_cons_zero, List.set_cons_succ]))
    refine wpSegs_nil ?_
    have TZ := Lib.hid T7.out.drew
    clear T7
    go_wp2_with fail
    refine (Htx.out _ (hv.turned TZ.out)).mono ?_
    rintro e wa ⟨rfl, ta⟩
    have Ta := Lib.hid (TZ.out.trans (W := fun _ => False) ta (fun _ e => e) (fun _ e => e.elim))
    clear ta TZ
    go_wp2_with fail
    refine (Hn1.out _ (hv.turned Ta.out)).mono ?_
    rintro e wb ⟨rfl, tb⟩
    have Tb := Lib.hid (Ta.out.trans (W := fun _ => False) tb (fun _ e => e) (fun _ e => e.elim))
    clear tb Ta
    go_wp2_with fail
    refine (Hn2.out _ (hv.turned Tb.out)).mono ?_
    rintro e wc ⟨rfl, tc⟩
    have Tc := Lib.hid (Tb.out.trans (W := fun _ => False) tc (fun _ e => e) (fun _ e => e.elim))
    clear tc Tb
    go_wp2_with fail
    refine (Ht2.out _ (hv.turned Tc.out)).mono ?_
    rintro e wd ⟨rfl, td⟩
    have Td := Lib.hid (Tc.out.trans (W := fun _ => False) td (fun _ e => e) (fun _ e => e.elim))
    clear td Tc
    have hse := hse'.out
    clear hs1 hs2
    go_wp2_with fail
    go_ret
    exact ⟨rfl, Td.out⟩
  | some l2 =>
    obtain ⟨hp1, hp2, hp3⟩ := put_get hb'.out hgl
    rw [hy'.out.len] at hp2
    clear hgl
    simp only
    rw [show (1 + (l2.length : Int)) = ((1 + l2.length : Nat) : Int) by omega]
    have hk1 : 1 ≤ 1 + l2.length := by omega
    have Hp2 := Lib.hid (fun (w : World) => put_any ⟨l2.toArray⟩ w (by have := putOk_len hp1; simp [ByteArray.size]; omega))
    rw [show (⟨l2.toArray⟩ : ByteArray).data.toList = l2 by simp, hp3] at Hp2
    unfold PutPost at Hp2
    have hlk : (zs.take (1 + l2.length)).length = 1 + l2.length := by rw [List.length_take, hy'.out.len]; omega
    rw [hlk] at Hp2
    generalize (⟨l2.toArray⟩ : ByteArray) = str3 at Hp2 ⊢
    generalize 1 + l2.length = k2 at hp2 hk1 Hp2 hlk ⊢
    obtain ⟨b, off, rfl, hcell⟩ := hy'.out.cell (by omega)
    have hlk' := Lib.hid hlk
    have hcell' := Lib.hid (hy'.out.toBytR)
    have hq1 : (1 : Int) ≤ (k2 : Int) := by omega
    have hq2 : (k2 : Int) ≤ (n : Int) := by omega
    have hq3 : (k2 : Int) ≤ (c : Int) := by omega
    have hd1 : decide ((k2 : Int) < 1) = false := decide_eq_false (by omega)
    have hd2 : decide ((n : Int) < (k2 : Int)) = false := decide_eq_false (by omega)
    have hd3 : decide (n < k2) = false := decide_eq_false (by omega)
    have hd4 : decide (k2 < 1) = false := decide_eq_false (by omega)
    have hd5 : ¬ n < k2 := by omega
    have hd6 : ¬ k2 < 1 := by omega
    have hd7 : ¬ k2 = 0 := by omega
    clear hp1 hp3 hlk hcell
    rintro e w7 ⟨rfl, t7⟩
    have T7 := Lib.hid (T6.out.trans (W := fun _ => False) t7 (fun _ e => e) (fun _ e => e.elim))
    clear t7 T6
    go_wp2_with fail
    refine wp_region_segs (fun _ => True) (segT [0, 1, 2, 3, 4, 5, 6, 7, 8, 9, 10, 11, 13, 14, 15] ++ segF [12, 16] ++ segT [17, 18, 19, 20, 21, 22, 23, 24, 25, 26, 27, 28, 29, 30, 31]) mixed (by kernel_rfl) (fun _ _ _ _ _ h => h) ?_
    simp only [segT, segF, pickSegs, List.map_cons, List.map_nil, List.cons_append, List.nil_append, List.filterMap_cons, List.filterMap_nil, List.getElem?_cons_zero, List.getElem?_cons_succ, Option.map_some]
    iterate 11 (first
      | (refine wpSegs_take (v := ?_) trivial rfl (fun w' hw => ?_) ?_; rotate_left; (go_simp; try with_reducible rfl); try simp only [Act.put, List.setIfInBounds_toArray, List.set_cons_zero, List.set_cons_succ])
      | (refine wpSegs_skip trivial rfl ?_; try simp only [Act.put, List.setIfInBounds_toArray, List.set_cons_zero, List.set_cons_succ]))
    iterate 4 (first
      | (refine wpSegs_take (v := ?_) trivial rfl (fun w' hw => ?_) ?_; rotate_left; (go_simp; try with_reducible rfl); try simp only [Act.put, List.setIfInBounds_toArray, List.set_cons_zero, List.set_cons_succ])
      | (refine wpSegs_skip trivial rfl ?_; try simp only [Act.put, List.setIfInBounds_toArray, List.set_cons_zero, List.set_cons_succ]))
    refine wpSegs_run rfl (fun K hK => ?_)
    go_simp
    refine (Hp2.out _).mono ?_
    rintro e w8 ⟨A8, c8, rfl, o8, _, t8⟩
    refine hK.out _ _ trivial ?_
    clear hK K
    have T8 := Lib.hid (T7.out.drew.trans (W := fun _ => False) t8 (fun _ e => e) (fun _ e => e.elim))
    have o8' := Lib.hid o8
    clear o8 t8 T7
    try simp only [Act.put, List.setIfInBounds_toArray, List.set_cons_zero, List.set_cons_succ]
    refine wpSegs_run rfl (fun K hK => ?_)
    go_simp
    refine (same_yes _ _ _ _ _ _ _ _ _ o8'.out.bytR ((hcell'.out.turnedF T8.out).cut (k := k2) (by omega)) rfl).mono ?_
    rintro e w9 ⟨rfl, nq, rfl⟩
    refine hK.out _ _ trivial ?_
    clear hK K
    have TZ := Lib.hid (T8.out.drewN nq)
    clear o8' T8
    try simp only [Act.put, List.setIfInBounds_toArray, List.set_cons_zero, List.set_cons_succ]
    iterate 15 (first
      | (refine wpSegs_take (v := ?_) trivial rfl (fun w' hw => ?_) ?_; rotate_left; (go_simp; try with_reducible rfl); try simp only [Act.put, List.setIfInBounds_toArray, List.set_cons_zero, List.set_cons_succ])
      | (refine wpSegs_skip trivial rfl ?_; try simp only [Act.put, List.setIfInBounds_toArray, List.set_cons_zero, List.set_cons_succ]))
    refine wpSegs_nil ?_
    go_wp2_with fail
    refine (Htx.out _ (hv.turned TZ.out)).mono ?_
    rintro e wa ⟨rfl, ta⟩
    have Ta := Lib.hid (TZ.out.trans (W := fun _ => False) ta (fun _ e => e) (fun _ e => e.elim))
    clear ta TZ
    go_wp2_with fail
    refine (Hn1.out _ (hv.turned Ta.out)).mono ?_
    rintro e wb ⟨rfl, tb⟩
    have Tb := Lib.hid (Ta.out.trans (W := fun _ => False) tb (fun _ e => e) (fun _ e => e.elim))
    clear tb Ta
    go_wp2_with fail
    refine (Hn2.out _ (hv.turned Tb.out)).mono ?_
    rintro e wc ⟨rfl, tc⟩
    have Tc := Lib.hid (Tb.out.trans (W := fun _ => False) tc (fun _ e => e) (fun _ e => e.elim))
    clear tc Tb
    go_wp2_with fail
    refine (Ht2.out _ (hv.turned Tc.out)).mono ?_
    rintro e wd ⟨rfl, td⟩
    have Td := Lib.hid (Tc.out.trans (W := fun _ => False) td (fun _ e => e) (fun _ e => e.elim))
    clear td Tc
    have hse := hse'.out
    clear hs1 hs2
    go_wp2_with fail
    go_ret
    exact ⟨rfl, Td.out⟩

set_option maxRecDepth 100000 in
theorem codeBack_any (s : ByteArray) (A : Option Addr) (n c : Nat) (zs : List Int) (x : Int) (w : World) (hv : VarsOk w) (hs : s.size ≤ 140737488355328) (hA : BytsOk w A n c zs) (hn : n ≤ 140737488355328) (hx : int64 x) :
    Calls Tryd.prog 4 #[.string s, .slice A n c, .int .i64 x] w (OkNew w) := by
  obtain ⟨hy, hb, hnc, hcm⟩ := hA
  by_cases hgt : 100000 < s.size + n
  · have hi : (100000 : Int) < (s.size : Int) + (n : Int) := by omega
    have hi2 : (s.size : Int) + (n : Int) ≤ 9223372036854775807 := by omega
    clear hy
    go_enter Tryd.func4, Tryd.ntmps4
    go_wp2_with fail
    refine (awake03_any _ hv).mono ?_
    rintro e w1 ⟨rfl, t1⟩
    go_wp2_with fail
    go_ret
    exact ⟨rfl, t1⟩
  · have hsz : s.size ≤ 100000 := by omega
    by_cases h0 : s.size = 0
    · exact codeBack_E s A n c zs x w hv hsz (by omega) hy hb hnc hcm hx (ba_empty h0)
    · cases hc : codeL s.data.toList with
      | true => exact codeBack_Y s A n c zs x w hv hsz (by omega) hy hb hnc hcm hx ⟨by omega, hc⟩
      | false => exact codeBack_N s A n c zs x w hv hsz (by omega) hy hb hnc hcm hx ⟨by omega, hc⟩
end Go.Proofs.YtmblonmpiomjgaaDoor
