/-
  The document's disk: its row of sectors written; Sync.
-/
import Derived.Test.YtmblonmpiomjgaaGreatRefB
namespace Go.Proofs.YtmblonmpiomjgaaGreat
open Go.RowKit Go.Maps

def RS.cell (x : RS) (c : Nat) : Value := if c = 0 then .int .i64 x.key else if c = 1 then x.lv else if c = 2 then x.sv else .bool x.op
/-- m sectors X lie at block g. -/
structure RowG (w : World) (base g cap m : Nat) (X : Nat → RS) : Prop where
  ge : base ≤ g
  le : m ≤ cap
  max : cap ≤ maxLen
  row : ∃ cs, Blk w g 96 cs ∧ cs.size = cap * 4 ∧ ∀ i, i < m → ∀ c, c < 4 → cs[i * 4 + c]? = some ((X i).cell c)
section
variable {w w' : World} {base g cap m : Nat} {X : Nat → RS}
theorem RowG.rowS (h : RowG w base g cap m X) : RowS w base (.slice (some ⟨g, 0, none⟩) m cap) m X := by
  obtain ⟨cs, hb, hs, hc⟩ := h.row
  have hle := h.le
  refine ⟨cs.toList.take (m * 4), ⟨by simp [hs]; omega, .inr ⟨g, cap, cs, rfl, h.ge, hb, h.le, h.max, hs, rfl⟩⟩, fun i hi => ?_⟩
  have key : ∀ c, c < 4 → (cs.toList.take (m * 4))[i * 4 + c]? = some ((X i).cell c) := fun c hc4 => by
    rw [List.getElem?_take, if_pos (by omega)]
    simpa using hc i hi c hc4
  exact ⟨key 0 (by omega), key 1 (by omega), key 2 (by omega), key 3 (by omega)⟩
theorem RowG.cell (h : RowG w base g cap m X) {i c : Nat} (hi : i < m) (hc : c < 4) : w.cell? ⟨g, i * 4 + c, none⟩ = some ((X i).cell c) := by
  obtain ⟨cs, hb, _, h'⟩ := h.row
  exact (hb.cell _).trans (h' i hi c hc)
theorem RowG.frozen (h : RowG w base g cap m X) (k : Nat) : w.frozen? ⟨g, k, none⟩ = false := let ⟨_, hb, _⟩ := h.row; hb.frozen k
theorem RowG.blk (h : RowG w base g cap m X) : ∃ cs, Blk w g 96 cs := let ⟨cs, hb, _⟩ := h.row; ⟨cs, hb⟩
theorem RowG.turned {W : Nat → Prop} (h : RowG w base g cap m X) (ht : Turned W w w') (hg : ¬ W g) : RowG w' base g cap m X :=
  let ⟨cs, hb, r⟩ := h.row; ⟨h.ge, h.le, h.max, cs, hb.turned ht hg, r⟩
theorem RowG.drew (h : RowG w base g cap m X) : RowG w.drew base g cap m X := ⟨h.ge, h.le, h.max, h.row⟩
theorem RowG.set (h : RowG w base g cap m X) {i c : Nat} (_hi : i < m) (hc : c < 4) (u : Value) (Y : Nat → RS) (hY : ∀ t, t < m → ∀ c', c' < 4 → (Y t).cell c' = if t = i ∧ c' = c then u else (X t).cell c') :
    RowG (w.setCell ⟨g, i * 4 + c, none⟩ u) base g cap m Y := by
  obtain ⟨cs, hb, hs, h'⟩ := h.row
  have hle := h.le
  refine ⟨h.ge, h.le, h.max, _, hb.set_ _ _, by simp [hs], fun t ht c' hc' => ?_⟩
  rw [hY t ht c' hc']
  by_cases e : t = i ∧ c' = c
  · rw [if_pos e, e.1, e.2, Array.getElem?_setIfInBounds_self_of_lt (by omega)]
  · rw [if_neg e, Array.getElem?_setIfInBounds_ne (by omega)]
    exact h' t ht c' hc'
theorem RowG.congr {Y : Nat → RS} (h : RowG w base g cap m X) (e : ∀ t, t < m → ∀ c, c < 4 → (X t).cell c = (Y t).cell c) : RowG w base g cap m Y :=
  let ⟨cs, hb, hs, h'⟩ := h.row; ⟨h.ge, h.le, h.max, cs, hb, hs, fun i hi c hc => by rw [← e i hi c hc]; exact h' i hi c hc⟩
theorem RowS.openG {lv : Value} (h : RowS w base lv m X) : (lv = .slice none 0 0 ∧ m = 0) ∨ ∃ g cap, lv = .slice (some ⟨g, 0, none⟩) m cap ∧ RowG w base g cap m X := by
  obtain ⟨xs, ⟨_, h2⟩, hx⟩ := h.own
  rcases h2 with h2 | ⟨g, cap, cur, rfl, hb, hh, hn, hc, hs, ht⟩
  · exact .inl h2
  · refine .inr ⟨g, cap, rfl, hb, hn, hc, cur, hh, hs, fun i hi c hc4 => ?_⟩
    have key : ∀ c v, c < 4 → xs[i * 4 + c]? = some v → cur[i * 4 + c]? = some v := by
      intro c v hc4 e
      rw [← ht, List.getElem?_take, if_pos (by omega)] at e
      simpa using e
    obtain ⟨e0, e1, e2, e3⟩ := hx i hi
    match c, hc4 with
    | 0, _ => exact key 0 _ (by omega) e0
    | 1, _ => exact key 1 _ (by omega) e1
    | 2, _ => exact key 2 _ (by omega) e2
    | 3, _ => exact key 3 _ (by omega) e3
end

def RS.shut (x : RS) : RS := { x with sv := x.lv, saf := x.lat, op := false }
def XS (X : Nat → RS) (j i : Nat) : RS := if i < j then (X i).shut else X i
theorem xs_key (X : Nat → RS) (j i : Nat) : (XS X j i).key = (X i).key := by unfold XS RS.shut; split <;> rfl
theorem xs_lv (X : Nat → RS) (j i : Nat) : (XS X j i).lv = (X i).lv := by unfold XS RS.shut; split <;> rfl
theorem near_xs (w : World) (lv : Value) (m : Nat) (X : Nat → RS) : Near w lv m X lv m (XS X m) := ⟨.inl rfl, fun b ⟨i, hi, hb⟩ => .inl ⟨i, hi, by
  have e : XS X m i = (X i).shut := by unfold XS; rw [if_pos hi]
  rw [e] at hb
  exact .inl (hb.elim id id)⟩⟩
def SyRel (base r : Nat) (n a : Int) (g cap m : Nat) (X : Nat → RS) (w : World) (v : Value) (wr : World) : Prop := ∃ j : Nat, j ≤ m ∧ v = .int .i64 j ∧ Blk wr r 51 (rdCells n (.slice (some ⟨g, 0, none⟩) m cap) a false) ∧
  RowG wr base g cap m (XS X j) ∧ Turned (fun k => k = r ∨ k = g) w wr
theorem xs_step {w : World} {base g cap m j : Nat} {X : Nat → RS} (h : RowG w base g cap m (XS X j)) (hj : j < m) :
    RowG ((w.setCell ⟨g, j * 4 + 2, none⟩ (X j).lv).setCell ⟨g, j * 4 + 3, none⟩ (.bool false)) base g cap m (XS X (j + 1)) := by
  refine RowG.set (h.set (c := 2) hj (by omega) (X j).lv (fun t => if t = j then { X j with sv := (X j).lv } else XS X j t) ?_) (c := 3) hj (by omega) (.bool false) _ ?_
  · intro t ht c hc
    by_cases e : t = j
    · subst e
      rw [if_pos rfl, show XS X t t = X t by unfold XS; rw [if_neg (by omega)]]
      by_cases e2 : c = 2
      · subst e2; simp [RS.cell]
      · rw [if_neg (fun x => e2 x.2)]; unfold RS.cell; simp [e2]
    · rw [if_neg e, if_neg (fun x => e x.1)]
  · intro t ht c hc
    by_cases e : t = j
    · subst e
      rw [if_pos rfl, show XS X (t + 1) t = (X t).shut by unfold XS; rw [if_pos (by omega)]]
      by_cases e2 : c = 3
      · subst e2; simp [RS.cell, RS.shut]
      · rw [if_neg (fun x => e2 x.2)]; unfold RS.cell RS.shut; 
        by_cases e3 : c = 0
        · simp [e3]
        · by_cases e4 : c = 1
          · simp [e4]
          · simp [show c = 2 by omega]
    · rw [if_neg (fun x => e x.1), if_neg e]
      have : XS X (j + 1) t = XS X j t := by
        unfold XS
        by_cases e3 : t < j
        · rw [if_pos e3, if_pos (by omega)]
        · rw [if_neg e3, if_neg (by omega)]
      rw [this]
theorem IsRef.synced {w w' : World} {base r m : Nat} {lv : Value} {A : DA} {X : Nat → RS} (h : IsRef w base r lv A m X) {a : Int} (ha : 0 ≤ a ∧ a ≤ 9223372036854775807) (hb : Blk w' r 51 (rdCells A.n lv a false)) (hr : RowS w' base lv m (XS X m))
    {W : Nat → Prop} (ht : Turned W w w') (hW : ∀ k cs, W k → ¬ Blk w k 5 cs) : IsRef w' base r lv { A with saf := A.lat, opn := fun _ => false, armed := a, down := false } m (XS X m) := by
  have e : ∀ i, i < m → XS X m i = (X i).shut := fun i hi => by unfold XS; rw [if_pos hi]
  refine ⟨hb, h.rb, h.n1, h.n2, ha.1, ha.2, hr, fun i hi => by rw [xs_key]; exact h.key i hi, fun i j hi hj => by rw [xs_key, xs_key]; exact h.one i j hi hj, fun i hi => ?_, fun i hi _ => ?_, fun i hi => ?_, fun k h0 h1 hk => ?_⟩
  · rw [e i hi]
    exact ⟨(h.byt i hi).1.turned ht hW, (h.byt i hi).1.turned ht hW⟩
  · rw [e i hi]; rfl
  · rw [e i hi]
    exact ⟨(h.has i hi).1, (h.has i hi).1, rfl⟩
  · have := h.none_ k h0 h1 (fun i hi => by have := hk i hi; rwa [xs_key] at this)
    exact ⟨this.1, this.1, rfl⟩

theorem rsync_down {w : World} {base r m : Nat} {lv : Value} {A : DA} {X : Nat → RS} (h : IsRef w base r lv A m X) (hd : A.down = true) : Calls Tryz.prog 26 #[.pointer (some ⟨r, 0, none⟩)] w (RetSame (.int .i64 8) w) := by
  obtain ⟨c0, c1, c2, c3⟩ := ref_cells h
  rw [hd] at c3
  clear h hd
  go_enter Tryz.func26, Tryz.ntmps26
  go_wp2
  go_ret
  exact ⟨rfl, rfl⟩
theorem rsync_crash {w : World} {base r m : Nat} {lv : Value} {A : DA} {X : Nat → RS} (h : IsRef w base r lv A m X) (hd : A.down = false) (hb : tickD A.armed = true) :
    Calls Tryz.prog 26 #[.pointer (some ⟨r, 0, none⟩)] w (RPost (.int .i64 8) base r lv m X A.sync w) := by
  obtain ⟨c0, c1, c2, c3⟩ := ref_cells h
  rw [hd] at c3
  have hk := rcrash_tick h hd
  rw [hb] at hk
  have hk' := Lib.hid hk
  have hb' := Lib.hid hb
  have hw := Lib.hid (refV_r h)
  clear h hd hk hb
  go_enter Tryz.func26, Tryz.ntmps26
  go_wp2_with fail
  refine hk'.out.mono ?_
  rintro e w1 ⟨rfl, h1, h2⟩
  go_wp2_with fail
  go_ret
  refine ⟨rfl, ⟨lv, m, X, ?_, Near.same _ _ _ _⟩, h2.mono (fun i hi => .inl (by obtain rfl : i = r := hi; exact hw.out))⟩
  have : A.sync = { A with armed := tickA A.armed, down := true } := by unfold DA.sync; rw [if_pos hb'.out]
  rw [this]
  exact h1
set_option maxRecDepth 100000 in
set_option maxHeartbeats 1000000 in
theorem rsync_ok {w : World} {base r m : Nat} {lv : Value} {A : DA} {X : Nat → RS} (h : IsRef w base r lv A m X) (hd : A.down = false) (hb : tickD A.armed = false) :
    Calls Tryz.prog 26 #[.pointer (some ⟨r, 0, none⟩)] w (RPost (.int .i64 0) base r lv m X A.sync w) := by
  obtain ⟨c0, c1, c2, c3⟩ := ref_cells h
  rw [hd] at c3
  have hk := rcrash_tick h hd
  rw [hb] at hk
  have hk' := Lib.hid hk
  have he : A.sync = { A with saf := A.lat, opn := fun _ => false, armed := tickA A.armed, down := false } := by unfold DA.sync; rw [hb]; rfl
  have he' := Lib.hid he
  have hw := Lib.hid (refV_r h)
  have ha := Lib.hid (show 0 ≤ tickA A.armed ∧ tickA A.armed ≤ 9223372036854775807 from ⟨(tickA_le h.a1).1, Int.le_trans (tickA_le h.a1).2 h.a2⟩)
  have h' := Lib.hid h
  have hm := h.row.max
  clear hd hk hb he
  rcases h.row.openG with ⟨rfl, rfl⟩ | ⟨g, cap, rfl, hG⟩
  · clear h
    go_enter Tryz.func26, Tryz.ntmps26
    go_wp2_with fail
    refine hk'.out.mono ?_
    rintro e w1 ⟨rfl, h1, h2⟩
    have d1 := (ref_cells h1).2.1
    have h1' := Lib.hid h1
    clear h1
    go_wp2_with fail
    go_loopw [3] (fun v wr => v = .int .i64 0 ∧ wr = w1) (fun _ _ => 0)
    case atStart => exact ⟨rfl, rfl⟩
    obtain ⟨rfl, rfl⟩ := hrel
    go_wp2
    go_ret
    rw [he'.out]
    refine ⟨rfl, ⟨_, 0, XS X 0, h'.out.synced ha.out h1'.out.blk h1'.out.row h2 (fun k cs' hk hb => ?_), near_xs _ _ _ _⟩, h2.mono (fun i hi => .inl (by obtain rfl : i = r := hi; exact hw.out))⟩
    subst hk
    exact absurd (hb.inj h'.out.blk).2 (by decide)
  · clear h
    go_enter Tryz.func26, Tryz.ntmps26
    go_wp2_with fail
    refine hk'.out.mono ?_
    rintro e w1 ⟨rfl, h1, h2⟩
    have hB1 := h1.blk
    have hne : g ≠ r := by
      obtain ⟨cs, hb⟩ := hG.blk
      exact fun e => by subst e; exact absurd (hb.inj h'.out.blk).2 (by decide)
    have hG1 := hG.turned h2 hne
    clear h1 hG
    go_wp2_with fail
    go_loopw [3] (fun v wr => SyRel base r A.n (tickA A.armed) g cap m X w v wr) (fun v _ => m - (intOf v).toNat)
    case atStart => exact ⟨0, Nat.zero_le _, rfl, hB1, hG1.congr (fun t ht c hc => rfl), h2.mono (fun i hi => .inl (.inl hi))⟩
    case round =>
      obtain ⟨j, hj, rfl, hB, hG, hT⟩ := hrel
      clear hB1 hG1 h2
      have d1 : wr.cell? ⟨r, 1, none⟩ = some (.slice (some ⟨g, 0, none⟩) m cap) := hB.cell 1
      by_cases hjm : j < m
      · have hji : (j : Int) < (m : Int) := by omega
        have e1 := hG.cell (i := j) (c := 1) hjm (by omega)
        have e2 := hG.cell (i := j) (c := 2) hjm (by omega)
        have e3 := hG.cell (i := j) (c := 3) hjm (by omega)
        obtain ⟨⟨_, g2, cap2, hlv, _⟩, _⟩ := h'.out.byt j hjm
        rw [show (XS X j j).cell 1 = (X j).lv from xs_lv X j j, hlv] at e1
        have hf := hG.frozen
        go_wp2_with fail
        refine wp_region_still_tail 15 mixed (by kernel_rfl) ?_
        simp only [List.take_succ_cons, List.take_zero, List.drop_succ_cons, List.drop_zero]
        change wpStill _ _ wr.drew (fun a' => wpList _ _ _ _ a' wr.drew) _ _
        iterate 15 still_step
        refine wpStill_nil ?_
        have hR : SyRel base r A.n (tickA A.armed) g cap m X w (.int .i64 ((j + 1 : Nat) : Int)) ((wr.drew.setCell ⟨g, j * 4 + 2, none⟩ (.slice (some ⟨g2, 0, none⟩) 512 cap2)).setCell ⟨g, j * 4 + 3, none⟩ (.bool false)) :=
          ⟨j + 1, by omega, rfl, (hB.drew.far (fun e => hne e.symm) _).far (fun e => hne e.symm) _, hlv ▸ xs_step hG.drew hjm, (hT.drew.setCell (.inl (.inr rfl)) _).setCell (.inl (.inr rfl)) _⟩
        have hR' := Lib.hid hR
        clear hR hB hG hT hlv
        go_wp2
        go_roundw
        case rel =>
          have hz : Value.int .i64 ((j : Int) + 1) = .int .i64 ((j + 1 : Nat) : Int) := by go_num
          first
          | (rw [hz]; exact hR'.out)
          | ((repeat apply Exists.intro); exact ⟨by rw [hz]; exact hR'.out, rfl⟩)
        case measure => simp [intOf]; omega
      · have hge : (m : Int) ≤ (j : Int) := by omega
        have hjm' := Lib.hid (show j = m by omega)
        have hH := Lib.hid (And.intro hB (And.intro hG hT))
        clear hB hG hT
        go_wp2
        go_ret
        obtain ⟨hB, hG, hT⟩ := hH.out
        rw [hjm'.out] at hG
        rw [he'.out]
        obtain ⟨cs, hgb⟩ := h'.out.row.openG.elim (fun e => by cases e.1) (fun ⟨g', cap', e, hG'⟩ => by
          have : g = g' := by simp at e; exact e.1
          subst this
          exact hG'.blk)
        refine ⟨rfl, ⟨_, m, XS X m, h'.out.synced ha.out hB hG.rowS hT (fun k cs' hk hb => ?_), near_xs _ _ _ _⟩, hT.mono (fun i hi => .inl ?_)⟩
        · rcases hk with rfl | rfl
          · exact absurd (hb.inj h'.out.blk).2 (by decide)
          · exact absurd (hb.inj hgb).2 (by decide)
        · rcases hi with rfl | rfl
          · exact hw.out
          · exact ⟨.inr rfl, hG.ge, cs, .inr hgb⟩
end Go.Proofs.YtmblonmpiomjgaaGreat
