/-
  The document's disk: Wake.
-/
import Derived.Test.YtmblonmpiomjgaaGreatRefC
import Derived.Test.YtmblonmpiomjgaaGreatWhole
namespace Go.Proofs.YtmblonmpiomjgaaGreat
open Go.RowKit Go.Maps

def RS.kept (x : RS) : RS := { x with sv := x.lv, saf := x.lat, op := false }
def RS.lost (x : RS) : RS := { x with lv := x.sv, lat := x.saf, op := false }
def RS.wake (fs : List Int) (x : RS) : RS := if x.op then (if fs.contains x.key then x.kept else x.lost) else x
def XW (fs : List Int) (X : Nat → RS) (j i : Nat) : RS := if i < j then (X i).wake fs else X i
theorem xw_at (fs : List Int) (X : Nat → RS) (j : Nat) : XW fs X j j = X j := by unfold XW; rw [if_neg (by omega)]
theorem xw_next (fs : List Int) (X : Nat → RS) (j : Nat) : XW fs X (j + 1) j = (X j).wake fs := by unfold XW; rw [if_pos (by omega)]
theorem xw_else (fs : List Int) (X : Nat → RS) (j t : Nat) (h : t ≠ j) : XW fs X (j + 1) t = XW fs X j t := by
  unfold XW
  by_cases e3 : t < j
  · rw [if_pos e3, if_pos (by omega)]
  · rw [if_neg e3, if_neg (by omega)]
theorem wake_key (fs : List Int) (x : RS) : (x.wake fs).key = x.key := by
  unfold RS.wake
  split
  · split <;> rfl
  · rfl
theorem near_xw (w : World) (lv : Value) (m : Nat) (X : Nat → RS) (fs : List Int) : Near w lv m X lv m (XW fs X m) := ⟨.inl rfl, fun b ⟨i, hi, hb⟩ => .inl ⟨i, hi, by
  have e : XW fs X m i = (X i).wake fs := by unfold XW; rw [if_pos hi]
  rw [e] at hb
  unfold RS.wake at hb
  split at hb
  · split at hb
    · exact .inl (hb.elim id id)
    · exact .inr (hb.elim id id)
  · exact hb⟩⟩
theorem Turned.belowAt {W : Nat → Prop} {a b : World} {B : Nat} (h : Turned W a b) (hW : ∀ i, W i → B ≤ i) (hB : B ≤ a.heap.size) : Below B a b :=
  ⟨h.os, h.tape, h.output, h.size, fun k hk => h.block k (by omega) (fun e => by have := hW k e; omega)⟩
theorem xw_key (fs : List Int) (X : Nat → RS) (j i : Nat) : (XW fs X j i).key = (X i).key := by
  unfold XW
  split
  · exact wake_key fs _
  · rfl
section
variable {w : World} {base g cap m j : Nat} {X : Nat → RS} {fs : List Int}
theorem RowG.drewN (h : RowG w base g cap m X) (n : Nat) : RowG (w.drewN n) base g cap m X := ⟨h.ge, h.le, h.max, h.row⟩
/-- Two cells of one sector are written. -/
theorem xw_two (h : RowG w base g cap m (XW fs X j)) (hj : j < m) (c : Nat) (hc : c = 1 ∨ c = 2) (u : Value) (y : RS) (hy : (X j).wake fs = y) (hk : y.key = (X j).key) (h1 : y.lv = if c = 1 then u else (X j).lv) (h2 : y.sv = if c = 2 then u else (X j).sv) (h3 : y.op = false) :
    RowG ((w.setCell ⟨g, j * 4 + c, none⟩ u).setCell ⟨g, j * 4 + 3, none⟩ (.bool false)) base g cap m (XW fs X (j + 1)) := by
  refine RowG.set (h.set (c := c) hj (by omega) u (fun t => if t = j then { y with op := (X j).op } else XW fs X j t) ?_) (c := 3) hj (by omega) (.bool false) _ ?_
  · intro t ht c' hc'
    by_cases e : t = j
    · subst e
      rw [if_pos rfl, xw_at]
      have hcc : c' = 0 ∨ c' = 1 ∨ c' = 2 ∨ c' = 3 := by omega
      rcases hc with rfl | rfl <;> rcases hcc with rfl | rfl | rfl | rfl <;> simp [RS.cell, hk, h1, h2]
    · rw [if_neg e, if_neg (fun x => e x.1)]
  · intro t ht c' hc'
    by_cases e : t = j
    · subst e
      rw [if_pos rfl, xw_next, hy]
      have hcc : c' = 0 ∨ c' = 1 ∨ c' = 2 ∨ c' = 3 := by omega
      rcases hcc with rfl | rfl | rfl | rfl <;> simp [RS.cell, h3]
    · rw [if_neg (fun x => e x.1), if_neg e, xw_else fs X j t e]
theorem xw_skip (h : RowG w base g cap m (XW fs X j)) (ho : (X j).op = false) : RowG w base g cap m (XW fs X (j + 1)) := by
  refine h.congr (fun t ht c hc => ?_)
  by_cases e : t = j
  · subst e
    rw [xw_at, xw_next]
    unfold RS.wake
    rw [ho]; rfl
  · rw [xw_else fs X j t e]
end
theorem IsRef.woken {w w' : World} {base r m : Nat} {lv : Value} {A : DA} {X : Nat → RS} (h : IsRef w base r lv A m X) (fs : List Int) (hb : Blk w' r 51 (rdCells A.n lv 0 false)) (hr : RowS w' base lv m (XW fs X m))
    {W : Nat → Prop} (ht : Turned W w w') (hW : ∀ k cs, W k → ¬ Blk w k 5 cs) : IsRef w' base r lv (A.wake fs) m (XW fs X m) := by
  have e : ∀ i, i < m → XW fs X m i = (X i).wake fs := fun i hi => by unfold XW; rw [if_pos hi]
  refine ⟨hb, h.rb, h.n1, h.n2, by show (0 : Int) ≤ 0; omega, by show (0 : Int) ≤ _; omega, hr, fun i hi => by rw [xw_key]; exact h.key i hi, fun i j hi hj => by rw [xw_key, xw_key]; exact h.one i j hi hj, fun i hi => ?_, fun i hi _ => ?_, fun i hi => ?_, fun k h0 h1 hk => ?_⟩
  · rw [e i hi]
    obtain ⟨b1, b2⟩ := h.byt i hi
    unfold RS.wake
    split
    · split
      · exact ⟨b1.turned ht hW, b1.turned ht hW⟩
      · exact ⟨b2.turned ht hW, b2.turned ht hW⟩
    · exact ⟨b1.turned ht hW, b2.turned ht hW⟩
  · rw [e i hi]
    unfold RS.wake
    split
    · split <;> rfl
    · rename_i ho
      exact h.shut i hi (by simpa using ho)
  · rw [e i hi, wake_key]
    obtain ⟨a1, a2, a3⟩ := h.has i hi
    unfold DA.wake RS.wake
    dsimp only
    rw [a1, a2, a3]
    cases ho : (X i).op
    · have := h.shut i hi ho
      simp [ho, this]
    · cases hc : fs.contains (X i).key <;> simp [RS.kept, RS.lost]
  · have hk' := h.none_ k h0 h1 (fun i hi => by have := hk i hi; rwa [xw_key] at this)
    unfold DA.wake
    dsimp only
    rw [hk'.1, hk'.2.1, hk'.2.2]
    simp

def WkRel (base r : Nat) (n : Int) (g cap m : Nat) (fs : List Int) (X : Nat → RS) (w : World) (v : Value) (wr : World) : Prop := ∃ j : Nat, j ≤ m ∧ v = .int .i64 j ∧ Blk wr r 51 (rdCells n (.slice (some ⟨g, 0, none⟩) m cap) 0 false) ∧
  RowG wr base g cap m (XW fs X j) ∧ Turned (fun k => k = r ∨ k = g) w wr
set_option maxRecDepth 100000 in
set_option maxHeartbeats 2000000 in
theorem rwake_any {w : World} {base r m : Nat} {lv : Value} {A : DA} {X : Nat → RS} (h : IsRef w base r lv A m X) (F : Option Addr) (fn fc : Nat) (fs : List Int) (hF : FatesR w base F fn fs) :
    Calls Tryz.prog 31 #[.pointer (some ⟨r, 0, none⟩), .slice F fn fc] w (RPost (.tuple #[]) base r lv m X (A.wake fs) w) := by
  obtain ⟨c0, c1, c2, c3⟩ := ref_cells h
  have hf := h.blk.frozen
  have hw := Lib.hid (refV_r h)
  have h' := Lib.hid h
  have hm := h.row.max
  have hfm := hF.max
  have hF0 := Lib.hid hF
  have hB0 := (h.blk.set_ 3 (.bool false)).set_ 2 (.int .i64 0)
  have hT0 := ((Turned.refl (fun k => k = r) w).setCell (p := ⟨r, 3, none⟩) (.inl rfl) (.bool false)).setCell (p := ⟨r, 2, none⟩) (.inl rfl) (.int .i64 0)
  clear hF
  rcases h.row.openG with ⟨rfl, rfl⟩ | ⟨g, cap, rfl, hG⟩
  · clear h
    have hB0' := Lib.hid hB0
    clear hB0
    go_enter Tryz.func31, Tryz.ntmps31
    go_wp2_with fail
    go_loopw [4] (fun v wr => v = .int .i64 0 ∧ wr = (w.setCell ⟨r, 3, none⟩ (.bool false)).setCell ⟨r, 2, none⟩ (.int .i64 0)) (fun _ _ => 0)
    case atStart => exact ⟨rfl, rfl⟩
    obtain ⟨rfl, rfl⟩ := hrel
    have d1 : ((w.setCell ⟨r, 3, none⟩ (.bool false)).setCell ⟨r, 2, none⟩ (.int .i64 0)).cell? ⟨r, 1, none⟩ = some (.slice none 0 0) := hB0'.out.cell 1
    go_wp2
    go_end0
    refine ⟨rfl, ⟨_, 0, XW fs X 0, h'.out.woken fs hB0'.out (h'.out.row.turned hT0 (fun k cs e hk => by obtain rfl : k = r := e; exact absurd (hk.inj h'.out.blk).2 (by decide))) hT0 (fun k cs' hk hb => ?_), near_xw _ _ _ _ _⟩, hT0.mono (fun i hi => .inl (by obtain rfl : i = r := hi; exact hw.out))⟩
    obtain rfl : k = r := hk
    exact absurd (hb.inj h'.out.blk).2 (by decide)
  · clear h
    have hne : g ≠ r := by
      obtain ⟨cs, hb⟩ := hG.blk
      exact fun e => by subst e; exact absurd (hb.inj h'.out.blk).2 (by decide)
    have hH0 := Lib.hid (And.intro hB0 (And.intro (hG.turned hT0 hne) hT0))
    clear hB0 hG hT0
    go_enter Tryz.func31, Tryz.ntmps31
    go_wp2_with fail
    go_loopw [4] (fun v wr => WkRel base r A.n g cap m fs X w v wr) (fun v _ => m - (intOf v).toNat)
    case atStart => exact ⟨0, Nat.zero_le _, rfl, hH0.out.1, hH0.out.2.1.congr (fun t ht c hc => rfl), hH0.out.2.2.mono (fun i hi => .inl (.inl hi))⟩
    case round =>
      obtain ⟨j, hj, rfl, hB, hG, hT⟩ := hrel
      clear c0 c1 c2 c3 hf hH0
      have d1 : wr.cell? ⟨r, 1, none⟩ = some (.slice (some ⟨g, 0, none⟩) m cap) := hB.cell 1
      obtain ⟨wo, hwo⟩ : ∃ wo : World, wo = wr := ⟨_, rfl⟩
      subst hwo
      by_cases hjm : j < m
      · have hji : (j : Int) < (m : Int) := by omega
        obtain ⟨⟨_, g2, cap2, hlv, _⟩, ⟨_, g3, cap3, hsv, _⟩⟩ := h'.out.byt j hjm
        have e0 := hG.cell (i := j) (c := 0) hjm (by omega)
        have e1 := hG.cell (i := j) (c := 1) hjm (by omega)
        have e2 := hG.cell (i := j) (c := 2) hjm (by omega)
        have e3 := hG.cell (i := j) (c := 3) hjm (by omega)
        rw [xw_at] at e0 e1 e2 e3
        rw [show (X j).cell 0 = .int .i64 (X j).key from rfl, Nat.add_zero] at e0
        rw [show (X j).cell 1 = (X j).lv from rfl, hlv] at e1
        rw [show (X j).cell 2 = (X j).sv from rfl, hsv] at e2
        rw [show (X j).cell 3 = .bool (X j).op from rfl] at e3
        have hgf := hG.frozen
        cases ho : (X j).op with
        | false =>
          rw [ho] at e3
          have hR : WkRel base r A.n g cap m fs X w (.int .i64 ((j + 1 : Nat) : Int)) wo := ⟨j + 1, by omega, rfl, hB, xw_skip hG ho, hT⟩
          have hR' := Lib.hid hR
          clear hR hB hG hT ho hlv hsv
          go_wp2
          go_roundw
          case rel =>
            have hz : Value.int .i64 ((j : Int) + 1) = .int .i64 ((j + 1 : Nat) : Int) := by go_num
            first
            | (rw [hz]; exact hR'.out)
            | ((repeat apply Exists.intro); exact ⟨by rw [hz]; exact hR'.out, rfl⟩)
          case measure => simp [intOf]; omega
        | true =>
          rw [ho] at e3
          have hFr := Lib.hid (hF0.out.below (hT.belowAt (B := base) (fun i hi => by rcases hi with rfl | rfl; exact h'.out.rb; exact hG.ge) (by have := h'.out.rb; have := h'.out.blk.lt; omega)))
          have hH := Lib.hid (And.intro hB (And.intro hG (And.intro hT (And.intro ho (And.intro hlv hsv)))))
          clear hB hG hT ho hlv hsv
          generalize hkey : (X j).key = key at e0
          have hkey' := Lib.hid hkey
          clear hkey
          go_wp2_with fail
          go_loopw [6, 7] (fun v i wr => ForRel fn fs key wo v i wr) (fun _ i _ => fn - (intOf i).toNat)
          case atStart => exact ⟨0, 0, false, Nat.zero_le _, rfl, rfl, rfl, rfl⟩
          case round =>
            obtain ⟨t, q, b, ht, rfl, rfl, rfl, hb⟩ := hrel
            have hb' := Lib.hid hb
            have hlen := Lib.hid hFr.out.len
            clear hb
            by_cases htn : t < fn
            · obtain ⟨fb, fo, rfl, hfb, hc⟩ := hFr.out.cell (by omega)
              have hct := hc t htn
              have hti : (t : Int) < (fn : Int) := by omega
              generalize hx : fs.getD t 0 = x at hct
              have hx' := Lib.hid hx
              clear hc hx
              cases b with
              | true =>
                have hn := Lib.hid (take_more hb'.out.symm).symm
                go_wp2
                go_quiet (fail)
                go_wp2
                go_roundw
                case rel =>
                  first
                  | exact ⟨t + 1, _, _, by omega, by go_num, rfl, by first | rfl | rw [World.drewN_drewN], hn.out⟩
                  | ((repeat apply Exists.intro); exact ⟨⟨t + 1, _, _, by omega, by go_num, rfl, by first | rfl | rw [World.drewN_drewN], hn.out⟩, rfl⟩)
                case measure => simp [intOf]; omega
              | false =>
                by_cases hxk : x = key
                · subst hxk
                  have hn := Lib.hid (take_hit (by rw [hlen.out]; exact htn) hx'.out).symm
                  go_wp2
                  go_quiet (fail)
                  go_wp2
                  go_roundw
                  case rel =>
                    first
                    | exact ⟨t + 1, _, _, by omega, by go_num, rfl, by first | rfl | rw [World.drewN_drewN], hn.out⟩
                    | ((repeat apply Exists.intro); exact ⟨⟨t + 1, _, _, by omega, by go_num, rfl, by first | rfl | rw [World.drewN_drewN], hn.out⟩, rfl⟩)
                  case measure => simp [intOf]; omega
                · have hn := Lib.hid (take_miss (by rw [hlen.out]; exact htn) hb'.out.symm (by rw [hx'.out]; exact hxk)).symm
                  have hxb : (x == key) = false := by simpa using hxk
                  clear hxk
                  go_wp2
                  go_quiet (fail)
                  go_wp2
                  go_roundw
                  case rel =>
                    first
                    | exact ⟨t + 1, _, _, by omega, by go_num, rfl, by first | rfl | rw [World.drewN_drewN], hn.out⟩
                    | ((repeat apply Exists.intro); exact ⟨⟨t + 1, _, _, by omega, by go_num, rfl, by first | rfl | rw [World.drewN_drewN], hn.out⟩, rfl⟩)
                  case measure => simp [intOf]; omega
            · have htf : t = fn := by omega
              have hkt : b = fs.contains key := by rw [hb'.out, htf, ← hlen.out, List.take_length]
              have hge : (fn : Int) ≤ (t : Int) := by omega
              have hkt' := Lib.hid hkt
              clear hb' hkt htf ht
              cases b with
              | true =>
                have hy : (X j).wake fs = (X j).kept := by
                  unfold RS.wake
                  rw [hH.out.2.2.2.1, if_pos rfl, hkey'.out, ← hkt'.out]
                  rfl
                have hR : WkRel base r A.n g cap m fs X w (.int .i64 ((j + 1 : Nat) : Int)) (((wo.drewN q).setCell ⟨g, j * 4 + 2, none⟩ (.slice (some ⟨g2, 0, none⟩) 512 cap2)).setCell ⟨g, j * 4 + 3, none⟩ (.bool false)) :=
                  ⟨j + 1, by omega, rfl, ((hH.out.1.drewN q).far (fun e => hne e.symm) _).far (fun e => hne e.symm) _, xw_two (hH.out.2.1.drewN q) hjm 2 (by omega) _ (X j).kept hy rfl (by simp [RS.kept, hH.out.2.2.2.2.1]) (by simp [RS.kept, hH.out.2.2.2.2.1]) rfl, ((hH.out.2.2.1.drewN q).setCell (.inl (.inr rfl)) _).setCell (.inl (.inr rfl)) _⟩
                have hR' := Lib.hid hR
                clear hR hy hkt'
                go_wp2
                go_roundw
                case rel =>
                  have hz : Value.int .i64 ((j : Int) + 1) = .int .i64 ((j + 1 : Nat) : Int) := by go_num
                  first
                  | (rw [hz]; exact hR'.out)
                  | ((repeat apply Exists.intro); exact ⟨by rw [hz]; exact hR'.out, rfl⟩)
                case measure => simp [intOf]; omega
              | false =>
                have hy : (X j).wake fs = (X j).lost := by
                  unfold RS.wake
                  rw [hH.out.2.2.2.1, if_pos rfl, hkey'.out, ← hkt'.out]
                  rfl
                have hR : WkRel base r A.n g cap m fs X w (.int .i64 ((j + 1 : Nat) : Int)) (((wo.drewN q).setCell ⟨g, j * 4 + 1, none⟩ (.slice (some ⟨g3, 0, none⟩) 512 cap3)).setCell ⟨g, j * 4 + 3, none⟩ (.bool false)) :=
                  ⟨j + 1, by omega, rfl, ((hH.out.1.drewN q).far (fun e => hne e.symm) _).far (fun e => hne e.symm) _, xw_two (hH.out.2.1.drewN q) hjm 1 (by omega) _ (X j).lost hy rfl (by simp [RS.lost, hH.out.2.2.2.2.2]) (by simp [RS.lost, hH.out.2.2.2.2.2]) rfl, ((hH.out.2.2.1.drewN q).setCell (.inl (.inr rfl)) _).setCell (.inl (.inr rfl)) _⟩
                have hR' := Lib.hid hR
                clear hR hy hkt'
                go_wp2
                go_roundw
                case rel =>
                  have hz : Value.int .i64 ((j : Int) + 1) = .int .i64 ((j + 1 : Nat) : Int) := by go_num
                  first
                  | (rw [hz]; exact hR'.out)
                  | ((repeat apply Exists.intro); exact ⟨by rw [hz]; exact hR'.out, rfl⟩)
                case measure => simp [intOf]; omega
      · have hge : (m : Int) ≤ (j : Int) := by omega
        have hjm' := Lib.hid (show j = m by omega)
        have hH := Lib.hid (And.intro hB (And.intro hG hT))
        clear hB hG hT
        go_wp2
        go_end0
        obtain ⟨hB, hG, hT⟩ := hH.out
        rw [hjm'.out] at hG
        obtain ⟨cs, hgb⟩ := h'.out.row.openG.elim (fun e => by cases e.1) (fun ⟨g', cap', e, hG'⟩ => by
          have : g = g' := by simp at e; exact e.1
          subst this
          exact hG'.blk)
        refine ⟨rfl, ⟨_, m, XW fs X m, h'.out.woken fs hB hG.rowS hT (fun k cs' hk hb => ?_), near_xw _ _ _ _ _⟩, hT.mono (fun i hi => .inl ?_)⟩
        · rcases hk with rfl | rfl
          · exact absurd (hb.inj h'.out.blk).2 (by decide)
          · exact absurd (hb.inj hgb).2 (by decide)
        · rcases hi with rfl | rfl
          · exact hw.out
          · exact ⟨.inr rfl, hG.ge, cs, .inr hgb⟩
end Go.Proofs.YtmblonmpiomjgaaGreat
