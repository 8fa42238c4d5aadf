/-
  flatParts over rows that lie apart: true; of what was there only the rows themselves turn.
-/
import Derived.Test.YtijmfglgeaaoaaaGreatDoorQFlE
import Derived.Test.YtijmfglgeaaoaaaGreatDoorQLnQ
namespace Go.Proofs.YtijmfglgeaaoaaaGreatDoor
open Go.RowKit Go.Maps
set_option linter.unusedVariables false
set_option linter.unusedSimpArgs false

def mkQC (k i : Int) : List Value := [.string ⟨#[]⟩, .int .i64 (1000003 * (k + 7) + i)]
theorem mkQE : MkE mkQC 2 := ⟨fun _ _ => rfl, fun k i v hv => by
  simp only [mkQC, List.mem_cons, List.not_mem_nil, or_false] at hv
  rcases hv with rfl | rfl <;> rfl⟩
theorem markQ_cell {w : World} {T g n cap t : Nat} {k : Int} (h : RowE w T 2 g n cap (marksE mkQC k n)) (ht : t < n) : w.cell? ⟨g, t * 2, none⟩ = some (.string ⟨#[]⟩) ∧ w.cell? ⟨g, t * 2 + 1, none⟩ = some (.int .i64 (1000003 * (k + 7) + (t : Int))) := by
  have h0 := marksE_get mkQE k n t 0 ht (by omega)
  have h1 := marksE_get mkQE k n t 1 ht (by omega)
  exact ⟨h.cell h0, h.cell h1⟩
theorem marksQ2_cell {w : World} {T g n cap t : Nat} {k k2 : Int} (h : RowE w T 2 g (n + 64) cap (marksE mkQC k n ++ marksE mkQC k2 64)) (ht : t < n) : w.cell? ⟨g, t * 2, none⟩ = some (.string ⟨#[]⟩) ∧ w.cell? ⟨g, t * 2 + 1, none⟩ = some (.int .i64 (1000003 * (k + 7) + (t : Int))) := by
  have h0 := marksE_get mkQE k n t 0 ht (by omega)
  have h1 := marksE_get mkQE k n t 1 ht (by omega)
  have hl := marksE_length mkQE k n
  refine ⟨h.cell ?_, h.cell ?_⟩
  · rw [List.getElem?_append_left (by omega)]; exact h0
  · rw [List.getElem?_append_left (by omega)]; exact h1
set_option maxRecDepth 100000 in
theorem eqQ_run (x : Int) (a : Act) (o : Oper) (i j : Nat) (ho : o.op = Op.binOp BinOp.eql 55 (.tmp i) (.tmp j) 55) (h1 : a.eval (.tmp i) = .agg #[.string ⟨#[]⟩, .int .i64 x]) (h2 : a.eval (.tmp j) = .agg #[.string ⟨#[]⟩, .int .i64 x]) (w : World) :
    (execOp a.eval o).run Tryz.prog w = .ok (.value (.bool true)) w := by
  simp only [execOp, ho, h1, h2]
  go_simp
theorem slQinfo : (Tryz.prog.info? 26).map (fun i => (i.zero, i.size, i.bytes)) = some (some (.slice none 0 0), 1, 24) := by kernel_rfl
set_option maxRecDepth 100000 in
set_option maxHeartbeats 8000000 in
theorem flatQ_any (L N cL : Nat) (A : Nat → Option Addr) (n c : Nat → Nat) (Z : Nat → List Value) (w : World) (h : FlE 55 2 26 w L N A n c Z) (h0 : 1 ≤ N) (hN : N ≤ 100) (hn : ∀ k, k < N → n k ≤ 1000000) :
    Calls Tryz.prog 70 #[.slice (some ⟨L, 0, none⟩) N cL] w (fun e w' => e = .returned (.bool true) ∧ Turned (FlEW N A) w w') := by
  have mixed : Tryz.prog.follows .mixedOrders = true := by kernel_rfl
  have h' := Lib.hid h
  have hn' := Lib.hid hn
  clear h hn
  go_enter Tryz.func70, Tryz.ntmps70
  go_wp2
  go_loopw [3] (fun i wr => FlE1R 55 2 26 mkQC w L N A n c i wr) (fun i _ => N - (intOf i).toNat)
  case atStart => exact ⟨0, by omega, rfl, Z, h'.out, fun j hj => absurd hj (by omega), Turned.refl _ _⟩
  case round =>
    obtain ⟨k, hk, rfl, Y, hF, hY, hT⟩ := hrel
    have hY' := Lib.hid hY
    have hF' := Lib.hid hF
    have hT' := Lib.hid hT
    obtain ⟨wo, hwo⟩ : ∃ wo : World, wo = wr := ⟨_, rfl⟩
    subst hwo
    by_cases hlt : k < N
    · have hki : (k : Int) < (N : Int) := by omega
      clear hF hY hT
      go_wp2
      go_loopw [4] (fun i wr => FlE1I 55 2 26 mkQC w L N A n c k i wr) (fun i _ => n k - (intOf i).toNat)
      case atStart => exact ⟨0, by omega, rfl, Y, hF'.out, hY'.out, by simp [marksE], hT'.out⟩
      case round =>
        obtain ⟨t, ht, rfl, Y2, hF2, hY2, hm2, hT2⟩ := hrel
        have q1 := hF2.cell hlt
        have hnk := hn'.out k hlt
        have hF3 := Lib.hid hF2
        have hY3 := Lib.hid hY2
        have hm3 := Lib.hid hm2
        have hT3 := Lib.hid hT2
        by_cases hlt2 : t < n k
        · obtain ⟨g, hA, hr⟩ := (hF2.own k hlt).some_ (by omega)
          have hr := Lib.hid hr
          have hA' := Lib.hid hA
          have hgL := Lib.hid (hF2.ne hlt hA)
          rw [hA] at q1
          clear hF2 hY2 hm2 hT2 hA
          have hti : (t : Int) < (n k : Int) := by omega
          go_wp2_with fail
          refine wp_region_segs (fun w' => w'.cell? ⟨L, k, none⟩ = some (.slice (some ⟨g, 0, none⟩) (n k) (c k))) (segT [0, 1, 2, 3, 4, 5, 6] ++ segF [7] ++ segT [8] ++ segF [9]) mixed (by kernel_rfl) (fun _ _ _ _ _ h => h) ?_
          simp only [segT, segF, pickSegs, List.map_cons, List.map_nil, List.cons_append, List.nil_append, List.filterMap_cons, List.filterMap_nil, List.getElem?_cons_zero, List.getElem?_cons_succ, Option.map_some]
          have hS : wr.drew.cell? ⟨L, k, none⟩ = some (.slice (some ⟨g, 0, none⟩) (n k) (c k)) := q1
          iterate 7 (refine wpSegs_take (v := ?_) hS rfl (fun w' hw => ?_) ?_; rotate_left; (focus (go_simp; (try with_reducible rfl); done)); try simp only [Act.put, List.setIfInBounds_toArray, List.set_cons_zero, List.set_cons_succ])
          refine wpSegs_run rfl (fun K hK => ?_)
          go_simp
          refine (mkQ_any (k : Int) (t : Int) _ (by omega) (by omega) (by omega) (by omega)).mono ?_
          rintro e w3 ⟨rfl, tw3⟩
          have hS2 := hS
          replace hS : w3.cell? ⟨L, k, none⟩ = some (.slice (some ⟨g, 0, none⟩) (n k) (c k)) := cell_turned tw3 hS2 (fun e => e)
          clear hS2
          have Uw3 := Lib.hid tw3
          clear tw3
          refine hK.out _ _ hS ?_
          clear hK K
          have hr3 := hr.out.fresh ((Turned.refl (fun _ => False) wr).drew.and_ Uw3.out)
          have c0 := hr3.cell? (i := t * 2) (by omega)
          have c1 := hr3.cell? (i := t * 2 + 1) (by omega)
          have hyl := hr3.len
          rw [List.getElem?_eq_getElem (by omega)] at c0 c1
          have f0 := hr3.frozen (t * 2)
          have f1 := hr3.frozen (t * 2 + 1)
          generalize (Y2 k)[t * 2]'(by omega) = v0 at c0
          generalize (Y2 k)[t * 2 + 1]'(by omega) = v1 at c1
          clear hr3 hyl
          iterate 1 (refine wpSegs_take (v := ?_) hS rfl (fun w' hw => ?_) ?_; rotate_left; (focus (go_simp; (try with_reducible rfl); done)); try simp only [Act.put, List.setIfInBounds_toArray, List.set_cons_zero, List.set_cons_succ])
          refine wpSegs_run rfl (fun K hK => ?_)
          go_simp
          have hR0 := flE1_step mkQE hF3.out hY3.out hm3.out hT3.out hlt hA'.out hlt2 ((Turned.refl (fun _ => False) wr).drew.and_ Uw3.out)
          have hR := Lib.hid hR0
          clear hR0
          have hS9 := cell_turned ((Turned.refl (fun i => i = g) w3).sets (mkQC k t) (t * 2) (.inl rfl)) hS (fun e => hgL.out e.symm)
          refine hK.out _ _ hS9 ?_
          clear hK K
          refine wpSegs_nil ?_
          clear hS hS9
          go_wp2_with fail
          have hz : Value.int .i64 ((t : Int) + 1) = .int .i64 ((t + 1 : Nat) : Int) := by go_num
          go_roundw
          case rel =>
            first
            | (rw [hz]; exact hR.out)
            | ((repeat apply Exists.intro); exact ⟨by rw [hz]; exact hR.out, rfl⟩)
          case measure => simp [intOf]; omega
        · have hti : (n k : Int) ≤ (t : Int) := by omega
          obtain rfl : t = n k := by omega
          clear hF2 hY2 hm2 hT2
          go_wp2
          have hR := Lib.hid (flE1_next hF3.out hY3.out hm3.out hT3.out hlt)
          have hz : Value.int .i64 ((k : Int) + 1) = .int .i64 ((k + 1 : Nat) : Int) := by go_num
          go_roundw
          case rel =>
            first
            | (rw [hz]; exact hR.out)
            | ((repeat apply Exists.intro); exact ⟨by rw [hz]; exact hR.out, rfl⟩)
          case measure => simp [intOf]; omega
    · have hkN : N = k := by omega
      subst hkN
      have hge : (N : Int) ≤ (N : Int) := Int.le_refl _
      have hFm : FlE 55 2 26 wo L N A n c (flEM mkQC n) := hF.congr (fun j hj => hY j hj)
      obtain ⟨i0, hi, hz0, hz1, hz2⟩ := info_parts slQinfo
      have hI := Lib.hid (And.intro hi (And.intro hz0 (And.intro hz1 hz2)))
      have hFm' := Lib.hid hFm
      clear hF hY hT hi hz0 hz1 hz2 hFm hF' hY'
      go_wp2_with (at_make; refine wpList_make_full _ rfl _ _ 71 rfl wo.heap.size 26 i0 (.slice none 0 0) 1 Tryz.underlying71 hI.out.1 hI.out.2.1 hI.out.2.2.1 .i64 .i64 N N N rfl rfl rfl rfl (by rw [hI.out.2.2.2]; omega) (by unfold maxLen; omega) (Nat.le_refl _) ?_; intro w1 hown hg1)
      have hG1 : GsE 55 2 26 mkQC w w1 L N A n c wo.heap.size 0 (fun _ => none) (fun _ => 0) (fun j => marksE mkQC j (n j + 64)) := by
        have ht1 : Turned (fun _ => False) wo w1 := (Turned.refl _ wo).grown hg1 (by simp)
        rcases hown.2 with ⟨e, _⟩ | ⟨g, cap, cur, e, _, hb, _, _, hs, _⟩
        · cases e
        · injection e with e1 e2 e3
          injection e1 with e1
          injection e1 with e1
          subst e1 e3
          exact GsE.start (hFm'.out.fresh ht1) hb (by omega) hFm'.out.lt hT'.out.size (hT'.out.trans ht1 (fun _ e => e) (fun _ e => e.elim))
      have hG1' := Lib.hid hG1
      generalize wo.heap.size = G at *
      clear hown hg1 hG1 hFm' hT' hI
      go_loopw [6] (fun i wr => GsER 55 2 26 mkQC w L N A n c G (fun j => marksE mkQC j (n j + 64)) i wr) (fun i _ => N - (intOf i).toNat)
      case atStart => exact ⟨0, by omega, rfl, _, _, hG1'.out⟩
      case round =>
        obtain ⟨k, hk, rfl, B, d, hG⟩ := hrel
        clear hG1'
        have hG' := Lib.hid hG
        obtain ⟨wp, hwp⟩ : ∃ wp : World, wp = wr := ⟨_, rfl⟩
        subst hwp
        by_cases hlt : k < N
        · have hki : (k : Int) < (N : Int) := by omega
          have q1 := hG.fl.cell hlt
          have hgr0 : GrEI 55 2 mkQC wp wp k (n k) (c k) (A k) 0 (A k) (c k) := by
            have := hG.fl.own k hlt
            exact ⟨this, this, .inl ⟨rfl, rfl⟩, Turned.refl _ _⟩
          have hgr0' := Lib.hid hgr0
          have hnk := hn'.out k hlt
          clear hG hgr0
          go_wp2
          go_loopw [7, 8] (fun v i wr => GrER 55 2 mkQC wp k (n k) (c k) (A k) v i wr) (fun _ i _ => 64 - (intOf i).toNat)
          case atStart => exact ⟨0, by omega, rfl, _, _, rfl, hgr0'.out⟩
          case round =>
            obtain ⟨t, ht, rfl, B', d', rfl, hgr⟩ := hrel
            have hgr' := Lib.hid hgr
            have q1 := cell_turned hgr.tr (hG'.out.fl.cell hlt) (fun e => hG'.out.fl.ne hlt e rfl)
            clear hgr0'
            by_cases hlt2 : t < 64
            · have hti : (t : Int) < 64 := by omega
              clear hgr
              go_wp2_with fail
              refine (mkQ_any (k : Int) ((n k : Int) + (t : Int)) _ (by omega) (by omega) (by omega) (by omega)).mono ?_
              rintro e w3 ⟨rfl, t3⟩
              have t3' := Lib.hid t3
              clear t3

              go_wp2_with (at_builtin; refine wpList_appE partT rfl (.tmp 57) (.tmp 67) rfl ((hgr'.out.own.fresh t3'.out).fresh ((Turned.refl (fun _ => False) w3).alloc _)) ⟨w3.heap.size, 0, none⟩ 1 1 (mkQC (k : Int) ((n k : Int) + (t : Int))) rfl (news_new w3 55 (mkQC (k : Int) ((n k : Int) + (t : Int)))) (mkQE.one _ _) (by omega) (by unfold maxLen; omega) (by omega) rfl rfl ?_; intro A' c' w4 ho4 hor4)
              have hst := GrEI.step mkQE (hG'.out.fl.own k hlt) hgr'.out (t3'.out.alloc _) ho4 hor4
              have hR : GrER 55 2 mkQC wp k (n k) (c k) (A k) (.slice A' (n k + (t + 1)) c') (.int .i64 ((t + 1 : Nat) : Int)) w4 :=
                ⟨t + 1, by omega, rfl, A', c', rfl, by
                  have e : marksE mkQC (k : Int) (n k + (t + 1)) = marksE mkQC (k : Int) (n k + t) ++ mkQC (k : Int) ((n k : Int) + (t : Int)) := by
                    rw [← Nat.add_assoc, marksE_succ, Int.natCast_add]
                  rw [e]; exact ho4, hst.1, hst.2.1, hst.2.2⟩
              have hR' := Lib.hid hR
              clear ho4 hor4 hst hR
              have hz : Value.int .i64 ((t : Int) + 1) = .int .i64 ((t + 1 : Nat) : Int) := by go_num
              go_roundw
              case rel =>
                first
                | (rw [hz]; exact hR'.out)
                | ((repeat apply Exists.intro); exact ⟨by rw [hz]; exact hR'.out, rfl⟩)
              case measure => simp [intOf]; omega
            · have ht64 : t = 64 := by omega
              subst ht64
              obtain ⟨cs, hb, hs, _⟩ := hG'.out.cells
              have hb2 := hb.turned hgr.tr (fun e => (hG'.out.fl.own k hlt).blk hb (by decide) e rfl)
              have q2 : wr.cell? ⟨G, k, none⟩ = some (cs[k]'(by omega)) := by rw [hb2.cell]; exact Array.getElem?_eq_getElem (by omega)
              have q3 := hb2.frozen k
              generalize cs[k]'(by omega) = v0 at q2
              clear hb hb2 hgr hs
              go_wp2
              have hnx := hG'.out.next hlt hgr'.out.own hgr'.out.old (by
                rcases hgr'.out.at_ with ⟨e, _⟩ | e
                · exact .inl e
                · exact .inr e) hgr'.out.tr
              have hR : GsER 55 2 26 mkQC w L N A n c G (fun j => marksE mkQC j (n j + 64)) (.int .i64 ((k + 1 : Nat) : Int)) (wr.setCell ⟨G, k, none⟩ (.slice B' (n k + 64) d')) := ⟨k + 1, by omega, rfl, _, _, hnx⟩
              have hR' := Lib.hid hR
              clear hnx hR
              have hz : Value.int .i64 ((k : Int) + 1) = .int .i64 ((k + 1 : Nat) : Int) := by go_num
              go_roundw
              case rel =>
                first
                | (rw [hz]; exact hR'.out)
                | ((repeat apply Exists.intro); exact ⟨by rw [hz]; exact hR'.out, rfl⟩)
              case measure => simp [intOf]; omega
        · have hkN : N = k := by omega
          subst hkN
          have hge : (N : Int) ≤ (N : Int) := Int.le_refl _
          clear hG
          go_wp2
          go_loopw [9] (fun i wr => TrER N wp i wr) (fun i _ => N - (intOf i).toNat)
          case atStart => exact ⟨0, by omega, rfl, Turned.refl _ _⟩
          case round =>
            obtain ⟨k, hk, rfl, hT⟩ := hrel
            have hT := Lib.hid hT
            by_cases hlt : k < N
            · have hki : (k : Int) < (N : Int) := by omega
              have hnk := hn'.out k hlt
              obtain ⟨h, hB, hrB⟩ := ((hG'.out.own k hlt).fresh hT.out).some_ (by omega)
              have qG : wr.cell? ⟨G, k, none⟩ = some (.slice (some ⟨h, 0, none⟩) (n k + 64) (d k)) := by rw [← hB]; exact cell_turned hT.out (hG'.out.cell hlt) (fun e => e)
              have hrB' := Lib.hid hrB
              clear hB hrB
              obtain ⟨wq, hwq⟩ : ∃ wq : World, wq = wr := ⟨_, rfl⟩
              subst hwq
              go_wp2
              go_loopw [10] (fun i wr => TrER (n k + 64) wq i wr) (fun i _ => n k + 64 - (intOf i).toNat)
              case atStart => exact ⟨0, by omega, rfl, Turned.refl _ _⟩
              case round =>
                obtain ⟨t, ht, rfl, hT2⟩ := hrel
                have hT2 := Lib.hid hT2
                have qG := cell_turned hT2.out qG (fun e => e)
                by_cases hlt2 : t < n k + 64
                · have hti : (t : Int) < (n k : Int) + 64 := by omega
                  have qH := markQ_cell (hrB'.out.fresh hT2.out) hlt2
                  have qL : wr.cell? ⟨L, k, none⟩ = some (.slice (A k) (n k) (c k)) := cell_turned hT2.out (cell_turned hT.out (hG'.out.fl.cell hlt) (fun e => e)) (fun e => e)
                  by_cases htn : t < n k
                  · obtain ⟨g, hA, hrA⟩ := (((hG'.out.fl.own k hlt).fresh hT.out).fresh hT2.out).some_ (by omega)
                    have qA := markQ_cell hrA htn
                    rw [hA] at qL
                    clear hA hrA
                    have hd1 : decide ((t : Int) < (n k : Int)) = true := by simp; omega
                    have hd4 : decide (t < n k) = true := by simp; omega
                    have hjl : (t : Int) < (n k : Int) := by omega
                    go_wp2_with fail
                    have HM := Lib.hid (fun (w : World) => mkQ_any (k : Int) (t : Int) w (by omega) (by omega) (by omega) (by omega))
                    generalize 1000003 * ((k : Int) + 7) + (t : Int) = mv at *
                    refine wp_region_segs (fun w' => w'.cell? ⟨G, k, none⟩ = some (.slice (some ⟨h, 0, none⟩) (n k + 64) (d k)) ∧ w'.cell? ⟨h, t * 2, none⟩ = some (.string ⟨#[]⟩) ∧ w'.cell? ⟨h, t * 2 + 1, none⟩ = some (.int .i64 mv) ∧ w'.cell? ⟨L, k, none⟩ = some (.slice (some ⟨g, 0, none⟩) (n k) (c k)) ∧ w'.cell? ⟨g, t * 2, none⟩ = some (.string ⟨#[]⟩) ∧ w'.cell? ⟨g, t * 2 + 1, none⟩ = some (.int .i64 mv)) (segT [0, 1, 2, 3, 4, 5, 6, 7, 8] ++ segF [9] ++ segT [10, 11, 12, 13, 14, 15, 16, 17, 18, 19, 20, 21, 22, 23, 24, 25, 26, 27, 28, 29] ++ segF [30] ++ segT [31, 32, 33, 34]) mixed (by kernel_rfl) (fun _ _ _ _ _ h => h) ?_
                    simp only [segT, segF, pickSegs, List.map_cons, List.map_nil, List.cons_append, List.nil_append, List.filterMap_cons, List.filterMap_nil, List.getElem?_cons_zero, List.getElem?_cons_succ, Option.map_some]
                    have hS : wr.drew.cell? ⟨G, k, none⟩ = some (.slice (some ⟨h, 0, none⟩) (n k + 64) (d k)) ∧ wr.drew.cell? ⟨h, t * 2, none⟩ = some (.string ⟨#[]⟩) ∧ wr.drew.cell? ⟨h, t * 2 + 1, none⟩ = some (.int .i64 mv) ∧ wr.drew.cell? ⟨L, k, none⟩ = some (.slice (some ⟨g, 0, none⟩) (n k) (c k)) ∧ wr.drew.cell? ⟨g, t * 2, none⟩ = some (.string ⟨#[]⟩) ∧ wr.drew.cell? ⟨g, t * 2 + 1, none⟩ = some (.int .i64 mv) := ⟨qG, qH.1, qH.2, qL, qA.1, qA.2⟩
                    iterate 9 (refine wpSegs_take (v := ?_) hS rfl (fun w' hw => ?_) ?_; rotate_left; (focus (obtain ⟨hw0, hw1, hw2, hw3, hw4, hw5⟩ := hw; go_simp; (try with_reducible rfl); done)); try simp only [Act.put, List.setIfInBounds_toArray, List.set_cons_zero, List.set_cons_succ])
                    refine wpSegs_run rfl (fun K hK => ?_)
                    go_simp
                    refine (HM.out _).mono ?_
                    rintro e w3 ⟨rfl, tw3⟩
                    have hS2 := hS
                    replace hS : w3.cell? ⟨G, k, none⟩ = some (.slice (some ⟨h, 0, none⟩) (n k + 64) (d k)) ∧ w3.cell? ⟨h, t * 2, none⟩ = some (.string ⟨#[]⟩) ∧ w3.cell? ⟨h, t * 2 + 1, none⟩ = some (.int .i64 mv) ∧ w3.cell? ⟨L, k, none⟩ = some (.slice (some ⟨g, 0, none⟩) (n k) (c k)) ∧ w3.cell? ⟨g, t * 2, none⟩ = some (.string ⟨#[]⟩) ∧ w3.cell? ⟨g, t * 2 + 1, none⟩ = some (.int .i64 mv) := ⟨cell_turned tw3 hS2.1 (fun e => e), cell_turned tw3 hS2.2.1 (fun e => e), cell_turned tw3 hS2.2.2.1 (fun e => e), cell_turned tw3 hS2.2.2.2.1 (fun e => e), cell_turned tw3 hS2.2.2.2.2.1 (fun e => e), cell_turned tw3 hS2.2.2.2.2.2 (fun e => e)⟩
                    clear hS2
                    have Uw3 := Lib.hid tw3
                    clear tw3
                    refine hK.out _ _ hS ?_
                    clear hK K
                    iterate 1 (refine wpSegs_take (v := .bool true) hS rfl (fun w' hw => eqQ_run mv _ _ _ _ rfl rfl rfl w') ?_; try simp only [Act.put, List.setIfInBounds_toArray, List.set_cons_zero, List.set_cons_succ])
                    iterate 19 (refine wpSegs_take (v := ?_) hS rfl (fun w' hw => ?_) ?_; rotate_left; (focus (obtain ⟨hw0, hw1, hw2, hw3, hw4, hw5⟩ := hw; go_simp; (try with_reducible rfl); done)); try simp only [Act.put, List.setIfInBounds_toArray, List.set_cons_zero, List.set_cons_succ])
                    refine wpSegs_run rfl (fun K hK => ?_)
                    go_simp
                    refine (HM.out _).mono ?_
                    rintro e w4 ⟨rfl, tw4⟩
                    have hS2 := hS
                    replace hS : w4.cell? ⟨G, k, none⟩ = some (.slice (some ⟨h, 0, none⟩) (n k + 64) (d k)) ∧ w4.cell? ⟨h, t * 2, none⟩ = some (.string ⟨#[]⟩) ∧ w4.cell? ⟨h, t * 2 + 1, none⟩ = some (.int .i64 mv) ∧ w4.cell? ⟨L, k, none⟩ = some (.slice (some ⟨g, 0, none⟩) (n k) (c k)) ∧ w4.cell? ⟨g, t * 2, none⟩ = some (.string ⟨#[]⟩) ∧ w4.cell? ⟨g, t * 2 + 1, none⟩ = some (.int .i64 mv) := ⟨cell_turned tw4 hS2.1 (fun e => e), cell_turned tw4 hS2.2.1 (fun e => e), cell_turned tw4 hS2.2.2.1 (fun e => e), cell_turned tw4 hS2.2.2.2.1 (fun e => e), cell_turned tw4 hS2.2.2.2.2.1 (fun e => e), cell_turned tw4 hS2.2.2.2.2.2 (fun e => e)⟩
                    clear hS2
                    have Uw4 := Lib.hid tw4
                    clear tw4
                    refine hK.out _ _ hS ?_
                    clear hK K
                    iterate 1 (refine wpSegs_take (v := .bool true) hS rfl (fun w' hw => eqQ_run mv _ _ _ _ rfl rfl rfl w') ?_; try simp only [Act.put, List.setIfInBounds_toArray, List.set_cons_zero, List.set_cons_succ])
                    iterate 3 (refine wpSegs_take (v := ?_) hS rfl (fun w' hw => ?_) ?_; rotate_left; (focus (obtain ⟨hw0, hw1, hw2, hw3, hw4, hw5⟩ := hw; go_simp; (try with_reducible rfl); done)); try simp only [Act.put, List.setIfInBounds_toArray, List.set_cons_zero, List.set_cons_succ])
                    refine wpSegs_nil ?_
                    clear hS
                    go_wp2_with fail
                    exact ⟨⟨t + 1, by omega, by go_num, ((hT2.out.and_ (Turned.refl (fun _ => False) wr).drew).and_ Uw3.out).and_ Uw4.out⟩, by simp [intOf]; omega⟩
                  · have hd1 : decide ((t : Int) < (n k : Int)) = false := by simp; omega
                    have hd4 : decide (t < n k) = false := by simp; omega
                    have hjl : (n k : Int) ≤ (t : Int) := by omega
                    go_wp2_with fail
                    have HM := Lib.hid (fun (w : World) => mkQ_any (k : Int) (t : Int) w (by omega) (by omega) (by omega) (by omega))
                    generalize 1000003 * ((k : Int) + 7) + (t : Int) = mv at *
                    refine wp_region_segs (fun w' => w'.cell? ⟨G, k, none⟩ = some (.slice (some ⟨h, 0, none⟩) (n k + 64) (d k)) ∧ w'.cell? ⟨h, t * 2, none⟩ = some (.string ⟨#[]⟩) ∧ w'.cell? ⟨h, t * 2 + 1, none⟩ = some (.int .i64 mv) ∧ w'.cell? ⟨L, k, none⟩ = some (.slice (A k) (n k) (c k))) (segT [0, 1, 2, 3, 4, 5, 6, 7, 8] ++ segF [9] ++ segT [10, 11, 12, 13, 14, 15, 16, 17, 18, 19, 20, 21, 22, 23, 24, 25, 26, 27, 28, 29] ++ segF [30] ++ segT [31, 32, 33, 34]) mixed (by kernel_rfl) (fun _ _ _ _ _ h => h) ?_
                    simp only [segT, segF, pickSegs, List.map_cons, List.map_nil, List.cons_append, List.nil_append, List.filterMap_cons, List.filterMap_nil, List.getElem?_cons_zero, List.getElem?_cons_succ, Option.map_some]
                    have hS : wr.drew.cell? ⟨G, k, none⟩ = some (.slice (some ⟨h, 0, none⟩) (n k + 64) (d k)) ∧ wr.drew.cell? ⟨h, t * 2, none⟩ = some (.string ⟨#[]⟩) ∧ wr.drew.cell? ⟨h, t * 2 + 1, none⟩ = some (.int .i64 mv) ∧ wr.drew.cell? ⟨L, k, none⟩ = some (.slice (A k) (n k) (c k)) := ⟨qG, qH.1, qH.2, qL⟩
                    iterate 9 (refine wpSegs_take (v := ?_) hS rfl (fun w' hw => ?_) ?_; rotate_left; (focus (obtain ⟨hw0, hw1, hw2, hw3⟩ := hw; go_simp; (try with_reducible rfl); done)); try simp only [Act.put, List.setIfInBounds_toArray, List.set_cons_zero, List.set_cons_succ])
                    refine wpSegs_run rfl (fun K hK => ?_)
                    go_simp
                    refine (HM.out _).mono ?_
                    rintro e w3 ⟨rfl, tw3⟩
                    have hS2 := hS
                    replace hS : w3.cell? ⟨G, k, none⟩ = some (.slice (some ⟨h, 0, none⟩) (n k + 64) (d k)) ∧ w3.cell? ⟨h, t * 2, none⟩ = some (.string ⟨#[]⟩) ∧ w3.cell? ⟨h, t * 2 + 1, none⟩ = some (.int .i64 mv) ∧ w3.cell? ⟨L, k, none⟩ = some (.slice (A k) (n k) (c k)) := ⟨cell_turned tw3 hS2.1 (fun e => e), cell_turned tw3 hS2.2.1 (fun e => e), cell_turned tw3 hS2.2.2.1 (fun e => e), cell_turned tw3 hS2.2.2.2 (fun e => e)⟩
                    clear hS2
                    have Uw3 := Lib.hid tw3
                    clear tw3
                    refine hK.out _ _ hS ?_
                    clear hK K
                    iterate 1 (refine wpSegs_take (v := .bool true) hS rfl (fun w' hw => eqQ_run mv _ _ _ _ rfl rfl rfl w') ?_; try simp only [Act.put, List.setIfInBounds_toArray, List.set_cons_zero, List.set_cons_succ])
                    iterate 10 (refine wpSegs_take (v := ?_) hS rfl (fun w' hw => ?_) ?_; rotate_left; (focus (obtain ⟨hw0, hw1, hw2, hw3⟩ := hw; go_simp; (try with_reducible rfl); done)); try simp only [Act.put, List.setIfInBounds_toArray, List.set_cons_zero, List.set_cons_succ])
                    iterate 9 (refine wpSegs_skip hS rfl ?_; try simp only [Act.put, List.setIfInBounds_toArray, List.set_cons_zero, List.set_cons_succ])
                    refine wpSegs_runSkip hS rfl ?_
                    try simp only [Act.put, List.setIfInBounds_toArray, List.set_cons_zero, List.set_cons_succ]
                    iterate 2 (refine wpSegs_skip hS rfl ?_; try simp only [Act.put, List.setIfInBounds_toArray, List.set_cons_zero, List.set_cons_succ])
                    iterate 2 (refine wpSegs_take (v := ?_) hS rfl (fun w' hw => ?_) ?_; rotate_left; (focus (obtain ⟨hw0, hw1, hw2, hw3⟩ := hw; go_simp; (try with_reducible rfl); done)); try simp only [Act.put, List.setIfInBounds_toArray, List.set_cons_zero, List.set_cons_succ])
                    refine wpSegs_nil ?_
                    clear hS
                    go_wp2_with fail
                    exact ⟨⟨t + 1, by omega, by go_num, (hT2.out.and_ (Turned.refl (fun _ => False) wr).drew).and_ Uw3.out⟩, by simp [intOf]; omega⟩
                · have hge2 : (n k : Int) + 64 ≤ (t : Int) := by omega
                  go_wp2
                  have hR' := Lib.hid (show TrER N wp (.int .i64 ((k + 1 : Nat) : Int)) wr from ⟨k + 1, by omega, rfl, hT.out.and_ hT2.out⟩)
                  have hz : Value.int .i64 ((k : Int) + 1) = .int .i64 ((k + 1 : Nat) : Int) := by go_num
                  go_roundw
                  case rel =>
                    first
                    | (rw [hz]; exact hR'.out)
                    | ((repeat apply Exists.intro); exact ⟨by rw [hz]; exact hR'.out, rfl⟩)
                  case measure => simp [intOf]; omega
            · have hkN : N = k := by omega
              subst hkN
              have hG4' := Lib.hid (show GsE 55 2 26 mkQC w wr L N A n c G 0 (fun _ => none) (fun _ => 0) (flEX mkQC n N) from (hG'.out.fresh hT.out).again)
              clear hG' hT
              obtain ⟨wp, hwp⟩ : ∃ wp : World, wp = wr := ⟨_, rfl⟩
              subst hwp
              go_wp2
              go_loopw [11] (fun i wr => GsER 55 2 26 mkQC w L N A n c G (flEX mkQC n N) i wr) (fun i _ => N - (intOf i).toNat)
              case atStart => exact ⟨0, by omega, rfl, _, _, hG4'.out⟩
              case round =>
                obtain ⟨k, hk, rfl, B4, d4, hG⟩ := hrel
                clear hG4'
                have hG' := Lib.hid hG
                obtain ⟨wp, hwp⟩ : ∃ wp : World, wp = wr := ⟨_, rfl⟩
                subst hwp
                by_cases hlt : k < N
                · have hki : (k : Int) < (N : Int) := by omega
                  have hnk := hn'.out k hlt
                  obtain ⟨i0, hi, hz0, hz1, hz2⟩ := info_parts partT.info
                  have hI := Lib.hid (And.intro hi (And.intro hz0 (And.intro hz1 hz2)))
                  clear hG hi hz0 hz1 hz2
                  go_wp2_with (at_make; refine wpList_make_full _ rfl _ _ 26 rfl wp.heap.size 55 i0 (.agg #[.string ⟨#[]⟩, .int .i64 0]) 2 Tryz.underlying26 hI.out.1 hI.out.2.1 hI.out.2.2.1 .i64 .i64 64 64 64 rfl rfl rfl rfl (by rw [hI.out.2.2.2]; omega) (by unfold maxLen; omega) (Nat.le_refl _) ?_; intro w1 hown hg1)
                  have hM' := Lib.hid (show FiER 55 2 mkQC wp wp.heap.size ((k : Int) + (N : Int)) (.int .i64 (0 : Nat)) w1 from ⟨0, by omega, rfl, _, RowE.of_own hown, by simp [marksE], (Turned.refl _ wp).grown hg1 (by simp)⟩)
                  clear hown hg1 hI
                  go_loopw [13] (fun i wr => FiER 55 2 mkQC wp wp.heap.size ((k : Int) + (N : Int)) i wr) (fun i _ => 64 - (intOf i).toNat)
                  case atStart => exact hM'.out
                  case round =>
                    obtain ⟨t, ht, rfl, ys, hr, hys, hT⟩ := hrel
                    clear hM'
                    have hr' := Lib.hid hr
                    have hys' := Lib.hid hys
                    have hT' := Lib.hid hT
                    by_cases hlt2 : t < 64
                    · have hti : (t : Int) < 64 := by omega
                      clear hr hys hT
                      go_wp2_with fail
                      refine (mkQ_any ((k : Int) + (N : Int)) (t : Int) _ (by omega) (by omega) (by omega) (by omega)).mono ?_
                      rintro e w3 ⟨rfl, t3⟩
                      have hr3 := hr'.out.fresh t3
                      have c0 := hr3.cell? (i := t * 2) (by omega)
                      have c1 := hr3.cell? (i := t * 2 + 1) (by omega)
                      have hyl := hr3.len
                      rw [List.getElem?_eq_getElem (by omega)] at c0 c1
                      have f0 := hr3.frozen (t * 2)
                      have f1 := hr3.frozen (t * 2 + 1)
                      generalize (ys)[t * 2]'(by omega) = v0 at c0
                      generalize (ys)[t * 2 + 1]'(by omega) = v1 at c1
                      have hR0 := FiER.step mkQE hr'.out hys'.out hT'.out (Nat.le_refl _) hlt2 t3

                      have hR' := Lib.hid hR0
                      clear hR0

                      clear hr3 hyl t3
                      go_wp2_with fail
                      have hz : Value.int .i64 ((t : Int) + 1) = .int .i64 ((t + 1 : Nat) : Int) := by go_num
                      go_roundw
                      case rel =>
                        first
                        | (rw [hz]; exact hR'.out)
                        | ((repeat apply Exists.intro); exact ⟨by rw [hz]; exact hR'.out, rfl⟩)
                      case measure => simp [intOf]; omega
                    · have ht64 : t = 64 := by omega
                      subst ht64
                      have hz64 : ys = marksE mkQC ((k : Int) + (N : Int)) 64 := by
                        have := hys
                        rw [List.take_of_length_le (by rw [hr.len]; omega)] at this
                        exact this
                      obtain ⟨cs, hb, hs, _⟩ := hG'.out.cells
                      have hb1 := hb.turned hT (fun e => e)
                      have hown := (hG'.out.fl.own k hlt).turned hT (fun _ _ e => e)
                      have hnw : ∀ j u, (marksE mkQC ((k : Int) + (N : Int)) 64)[j]? = some u → wr.cell? ((⟨wp.heap.size, 0, none⟩ : Addr).add j) = some u := by rw [← hz64]; exact hr.celR.news _ rfl
                      have q1 : wr.cell? ⟨L, k, none⟩ = some (.slice (A k) (n k) (c k)) := cell_turned hT (hG'.out.fl.cell hlt) (fun e => e)
                      have H := Lib.hid (And.intro hb1 (And.intro hown hnw))
                      have hGA : A k ≠ some ⟨G, 0, none⟩ := fun e => (hG'.out.fl.own k hlt).blk hb (by decide) e rfl
                      clear hr hys hT hz64 hb hb1 hown hnw hr' hys'
                      go_wp2_with (at_builtin; refine wpList_appE partT rfl (.tmp 148) (.tmp 149) rfl H.out.2.1 ⟨wp.heap.size, 0, none⟩ 64 64 (marksE mkQC ((k : Int) + (N : Int)) 64) (marksE_length mkQE _ _) H.out.2.2 (marksE_one mkQE _ _) (by omega) (by unfold maxLen; omega) (by omega) rfl rfl ?_; intro A' c' w4 ho4 hor4; have hb4 := H.out.1.turned hor4.turned hGA; have q2 : w4.cell? ⟨G, k, none⟩ = some (cs[k]'(by omega)) := (by rw [hb4.cell]; exact Array.getElem?_eq_getElem (by omega)); have q3 := hb4.frozen k)
                      have hnx := hG'.out.next hlt (Bk := A') (dk := c') ho4 (H.out.2.1.old ho4 hor4) (by
                        rcases hor4.at_ hT'.out.size with ⟨e, _⟩ | e
                        · exact .inl e
                        · exact .inr e) ((hT'.out.mono (fun _ e => e.elim)).trans (W := fun g => A k = some ⟨g, 0, none⟩) hor4.turned (fun _ e => e) (fun _ e => .inl e))
                      have hR' := Lib.hid (show GsER 55 2 26 mkQC w L N A n c G (flEX mkQC n N) (.int .i64 ((k + 1 : Nat) : Int)) (w4.setCell ⟨G, k, none⟩ (.slice A' (n k + 64) c')) from ⟨k + 1, by omega, rfl, _, _, hnx⟩)
                      clear hnx hb4 ho4 hor4
                      have hz : Value.int .i64 ((k : Int) + 1) = .int .i64 ((k + 1 : Nat) : Int) := by go_num
                      go_roundw
                      case rel =>
                        first
                        | (rw [hz]; exact hR'.out)
                        | ((repeat apply Exists.intro); exact ⟨by rw [hz]; exact hR'.out, rfl⟩)
                      case measure => simp [intOf]; omega
                · have hkN : N = k := by omega
                  subst hkN
                  have hge : (N : Int) ≤ (N : Int) := Int.le_refl _
                  clear hG
                  go_wp2
                  go_loopw [14] (fun i wr => TrER N wp i wr) (fun i _ => N - (intOf i).toNat)
                  case atStart => exact ⟨0, by omega, rfl, Turned.refl _ _⟩
                  case round =>
                    obtain ⟨k, hk, rfl, hT⟩ := hrel
                    have hT := Lib.hid hT
                    by_cases hlt : k < N
                    · have hki : (k : Int) < (N : Int) := by omega
                      have hnk := hn'.out k hlt
                      have qL : wr.cell? ⟨L, k, none⟩ = some (.slice (A k) (n k) (c k)) := cell_turned hT.out (hG'.out.fl.cell hlt) (fun e => e)
                      obtain ⟨wq, hwq⟩ : ∃ wq : World, wq = wr := ⟨_, rfl⟩
                      subst hwq
                      go_wp2
                      go_loopw [15] (fun i wr => TrER (n k) wq i wr) (fun i _ => n k - (intOf i).toNat)
                      case atStart => exact ⟨0, by omega, rfl, Turned.refl _ _⟩
                      case round =>
                        obtain ⟨t, ht, rfl, hT2⟩ := hrel
                        have hT2 := Lib.hid hT2
                        have qL := cell_turned hT2.out qL (fun e => e)
                        by_cases hlt2 : t < n k
                        · have hti : (t : Int) < (n k : Int) := by omega
                          have hti2 : (t : Int) < (n k : Int) + 64 := by omega
                          obtain ⟨h, hB, hrB⟩ := (((hG'.out.own k hlt).fresh hT.out).fresh hT2.out).some_ (by omega)
                          have qG : wr.cell? ⟨G, k, none⟩ = some (.slice (some ⟨h, 0, none⟩) (n k + 64) (d4 k)) := by rw [← hB]; exact cell_turned hT2.out (cell_turned hT.out (hG'.out.cell hlt) (fun e => e)) (fun e => e)
                          have qH := marksQ2_cell hrB hlt2
                          obtain ⟨g, hA, hrA⟩ := (((hG'.out.fl.own k hlt).fresh hT.out).fresh hT2.out).some_ (by omega)
                          have qA := markQ_cell hrA hlt2
                          rw [hA] at qL
                          clear hA hrA hB hrB
                          go_wp2_with fail
                          have HM := Lib.hid (fun (w : World) => mkQ_any (k : Int) (t : Int) w (by omega) (by omega) (by omega) (by omega))
                          generalize 1000003 * ((k : Int) + 7) + (t : Int) = mv at *
                          refine wp_region_segs (fun w' => w'.cell? ⟨L, k, none⟩ = some (.slice (some ⟨g, 0, none⟩) (n k) (c k)) ∧ w'.cell? ⟨g, t * 2, none⟩ = some (.string ⟨#[]⟩) ∧ w'.cell? ⟨g, t * 2 + 1, none⟩ = some (.int .i64 mv) ∧ w'.cell? ⟨G, k, none⟩ = some (.slice (some ⟨h, 0, none⟩) (n k + 64) (d4 k)) ∧ w'.cell? ⟨h, t * 2, none⟩ = some (.string ⟨#[]⟩) ∧ w'.cell? ⟨h, t * 2 + 1, none⟩ = some (.int .i64 mv)) (segT [0, 1, 2, 3, 4, 5, 6, 7, 8] ++ segF [9] ++ segT [10, 11, 12, 13, 14, 15, 16, 17, 18, 19, 20, 21] ++ segF [22] ++ segT [23, 24, 25]) mixed (by kernel_rfl) (fun _ _ _ _ _ h => h) ?_
                          simp only [segT, segF, pickSegs, List.map_cons, List.map_nil, List.cons_append, List.nil_append, List.filterMap_cons, List.filterMap_nil, List.getElem?_cons_zero, List.getElem?_cons_succ, Option.map_some]
                          have hS : wr.drew.cell? ⟨L, k, none⟩ = some (.slice (some ⟨g, 0, none⟩) (n k) (c k)) ∧ wr.drew.cell? ⟨g, t * 2, none⟩ = some (.string ⟨#[]⟩) ∧ wr.drew.cell? ⟨g, t * 2 + 1, none⟩ = some (.int .i64 mv) ∧ wr.drew.cell? ⟨G, k, none⟩ = some (.slice (some ⟨h, 0, none⟩) (n k + 64) (d4 k)) ∧ wr.drew.cell? ⟨h, t * 2, none⟩ = some (.string ⟨#[]⟩) ∧ wr.drew.cell? ⟨h, t * 2 + 1, none⟩ = some (.int .i64 mv) := ⟨qL, qA.1, qA.2, qG, qH.1, qH.2⟩
                          iterate 9 (refine wpSegs_take (v := ?_) hS rfl (fun w' hw => ?_) ?_; rotate_left; (focus (obtain ⟨hw0, hw1, hw2, hw3, hw4, hw5⟩ := hw; go_simp; (try with_reducible rfl); done)); try simp only [Act.put, List.setIfInBounds_toArray, List.set_cons_zero, List.set_cons_succ])
                          refine wpSegs_run rfl (fun K hK => ?_)
                          go_simp
                          refine (HM.out _).mono ?_
                          rintro e w3 ⟨rfl, tw3⟩
                          have hS2 := hS
                          replace hS : w3.cell? ⟨L, k, none⟩ = some (.slice (some ⟨g, 0, none⟩) (n k) (c k)) ∧ w3.cell? ⟨g, t * 2, none⟩ = some (.string ⟨#[]⟩) ∧ w3.cell? ⟨g, t * 2 + 1, none⟩ = some (.int .i64 mv) ∧ w3.cell? ⟨G, k, none⟩ = some (.slice (some ⟨h, 0, none⟩) (n k + 64) (d4 k)) ∧ w3.cell? ⟨h, t * 2, none⟩ = some (.string ⟨#[]⟩) ∧ w3.cell? ⟨h, t * 2 + 1, none⟩ = some (.int .i64 mv) := ⟨cell_turned tw3 hS2.1 (fun e => e), cell_turned tw3 hS2.2.1 (fun e => e), cell_turned tw3 hS2.2.2.1 (fun e => e), cell_turned tw3 hS2.2.2.2.1 (fun e => e), cell_turned tw3 hS2.2.2.2.2.1 (fun e => e), cell_turned tw3 hS2.2.2.2.2.2 (fun e => e)⟩
                          clear hS2
                          have Uw3 := Lib.hid tw3
                          clear tw3
                          refine hK.out _ _ hS ?_
                          clear hK K
                          iterate 1 (refine wpSegs_take (v := .bool true) hS rfl (fun w' hw => eqQ_run mv _ _ _ _ rfl rfl rfl w') ?_; try simp only [Act.put, List.setIfInBounds_toArray, List.set_cons_zero, List.set_cons_succ])
                          iterate 11 (refine wpSegs_take (v := ?_) hS rfl (fun w' hw => ?_) ?_; rotate_left; (focus (obtain ⟨hw0, hw1, hw2, hw3, hw4, hw5⟩ := hw; go_simp; (try with_reducible rfl); done)); try simp only [Act.put, List.setIfInBounds_toArray, List.set_cons_zero, List.set_cons_succ])
                          refine wpSegs_run rfl (fun K hK => ?_)
                          go_simp
                          refine (HM.out _).mono ?_
                          rintro e w4 ⟨rfl, tw4⟩
                          have hS2 := hS
                          replace hS : w4.cell? ⟨L, k, none⟩ = some (.slice (some ⟨g, 0, none⟩) (n k) (c k)) ∧ w4.cell? ⟨g, t * 2, none⟩ = some (.string ⟨#[]⟩) ∧ w4.cell? ⟨g, t * 2 + 1, none⟩ = some (.int .i64 mv) ∧ w4.cell? ⟨G, k, none⟩ = some (.slice (some ⟨h, 0, none⟩) (n k + 64) (d4 k)) ∧ w4.cell? ⟨h, t * 2, none⟩ = some (.string ⟨#[]⟩) ∧ w4.cell? ⟨h, t * 2 + 1, none⟩ = some (.int .i64 mv) := ⟨cell_turned tw4 hS2.1 (fun e => e), cell_turned tw4 hS2.2.1 (fun e => e), cell_turned tw4 hS2.2.2.1 (fun e => e), cell_turned tw4 hS2.2.2.2.1 (fun e => e), cell_turned tw4 hS2.2.2.2.2.1 (fun e => e), cell_turned tw4 hS2.2.2.2.2.2 (fun e => e)⟩
                          clear hS2
                          have Uw4 := Lib.hid tw4
                          clear tw4
                          refine hK.out _ _ hS ?_
                          clear hK K
                          iterate 1 (refine wpSegs_take (v := .bool true) hS rfl (fun w' hw => eqQ_run mv _ _ _ _ rfl rfl rfl w') ?_; try simp only [Act.put, List.setIfInBounds_toArray, List.set_cons_zero, List.set_cons_succ])
                          iterate 2 (refine wpSegs_take (v := ?_) hS rfl (fun w' hw => ?_) ?_; rotate_left; (focus (obtain ⟨hw0, hw1, hw2, hw3, hw4, hw5⟩ := hw; go_simp; (try with_reducible rfl); done)); try simp only [Act.put, List.setIfInBounds_toArray, List.set_cons_zero, List.set_cons_succ])
                          refine wpSegs_nil ?_
                          clear hS
                          go_wp2_with fail
                          exact ⟨⟨t + 1, by omega, by go_num, ((hT2.out.and_ (Turned.refl (fun _ => False) wr).drew).and_ Uw3.out).and_ Uw4.out⟩, by simp [intOf]; omega⟩
                        · have hge2 : (n k : Int) ≤ (t : Int) := by omega
                          go_wp2
                          have hR' := Lib.hid (show TrER N wp (.int .i64 ((k + 1 : Nat) : Int)) wr from ⟨k + 1, by omega, rfl, hT.out.and_ hT2.out⟩)
                          have hz : Value.int .i64 ((k : Int) + 1) = .int .i64 ((k + 1 : Nat) : Int) := by go_num
                          go_roundw
                          case rel =>
                            first
                            | (rw [hz]; exact hR'.out)
                            | ((repeat apply Exists.intro); exact ⟨by rw [hz]; exact hR'.out, rfl⟩)
                          case measure => simp [intOf]; omega
                    · have hkN : N = k := by omega
                      subst hkN
                      go_wp2
                      go_ret
                      exact ⟨rfl, hG'.out.tr.trans (W := FlEW N A) hT.out (fun _ e => e) (fun _ e => e.elim)⟩
end Go.Proofs.YtijmfglgeaaoaaaGreatDoor

