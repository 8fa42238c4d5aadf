/-
  The document's masters on the document's disk: Write, Format, Read.
-/
import Derived.Test.YtobjoafhhchjgaaMrkR
namespace Go.Proofs.Ytobjoafhhchjgaa
open Go.RowKit Go.Maps

/-- What an operation of the document's disk leaves: the disk, somewhere. -/
def RW (v : Value) (base r : Nat) (A : DA) (w : World) (e : Ending) (w' : World) : Prop := e = .returned v ∧ (∃ lv m X, IsRef w' base r lv A m X) ∧ Turned (RefW base w) w w'
theorem RPost.weak {v : Value} {base r m : Nat} {lv : Value} {X : Nat → RS} {A : DA} {w w' : World} {e : Ending} (h : RPost v base r lv m X A w e w') : RW v base r A w e w' :=
  let ⟨h1, ⟨lv', m', X', h2, _⟩, h3⟩ := h; ⟨h1, ⟨lv', m', X', h2⟩, h3.mono (fun _ e => .inl e.2)⟩
theorem refW_trans {base : Nat} {w w1 w2 : World} (h1 : Turned (RefW base w) w w1) (h2 : Turned (RefW base w1) w1 w2) : Turned (RefW base w) w w2 := by
  refine h1.trans h2 (fun _ e => e) (fun k e => ?_)
  by_cases hk : k < w.heap.size
  · by_cases hr : RefW base w k
    · exact .inl hr
    · obtain ⟨hb, cs, e⟩ := e
      refine .inl ⟨hb, cs, ?_⟩
      have hsame := h1.block k hk hr
      exact e.imp (fun e => hsame.symm.trans e) (fun e => hsame.symm.trans e)
  · exact .inr (by omega)
theorem refW_new {base : Nat} {w w1 : World} (h1 : Turned (fun _ => False) w w1) : Turned (RefW base w) w w1 := h1.mono (fun _ e => e.elim)
theorem RW.after {v : Value} {base r : Nat} {A : DA} {w w1 w2 : World} {e : Ending} (h1 : Turned (RefW base w) w w1) (h2 : RW v base r A w1 e w2) : RW v base r A w e w2 := ⟨h2.1, h2.2.1, refW_trans h1 h2.2.2⟩
theorem Blk.refTurned {base g t : Nat} {w w1 : World} {cs : Array Value} (h : Blk w g t cs) (ht : Turned (RefW base w) w w1) (h1 : t ≠ 83) (h2 : t ≠ 91) : Blk w1 g t cs :=
  h.turned ht (fun e => e.ne h h1 h2)

set_option maxRecDepth 100000 in
set_option maxHeartbeats 1000000 in
theorem rmwrite_all {w : World} {base r m : Nat} {lv : Value} {X : Nat → RS} {A : DA} (h : IsRef w base r lv A m X) (M : M4) (hm : M.Ok) :
    Calls Try.prog 64 #[.pointer (some ⟨r, 0, none⟩), .agg #[.int .i64 M.seq, .int .i64 M.turn, .int .i64 M.old, .int .i64 M.mark]] w (RW (.int .i64 (mw A M).1) base r (mw A M).2 w) := by
  have hn1 := h.n1
  have h' := Lib.hid h
  clear h
  by_cases hn : A.n < 40
  · have hR : mw A M = (2, A) := by unfold mw; rw [if_pos hn]
    rw [hR]
    obtain ⟨seq, turn, old, mark⟩ := M
    have ht0 := (Turned.refl (fun _ => False) w).alloc (.cells #[.int .i64 seq, .int .i64 turn, .int .i64 old, .int .i64 mark] 95)
    have hsec := Lib.hid (rsectors_any (h'.out.fresh ht0))
    have ht0' := Lib.hid ht0
    clear hR hm ht0
    go_enter Try.func64, Try.ntmps64
    go_wp2_with fail
    refine hsec.out.mono ?_
    rintro e w1 ⟨rfl, rfl⟩
    go_wp2_with fail
    go_ret
    exact ⟨rfl, ⟨_, _, _, h'.out.fresh ht0'.out⟩, refW_new ht0'.out⟩
  · cases hmay : M.may with
    | false =>
      have hR : mw A M = (2, A) := by unfold mw; rw [if_neg hn, hmay]; rfl
      rw [hR]
      have hmt := Lib.hid (fun w => rmay_to M false w hmay)
      obtain ⟨seq, turn, old, mark⟩ := M
      have ht0 := (Turned.refl (fun _ => False) w).alloc (.cells #[.int .i64 seq, .int .i64 turn, .int .i64 old, .int .i64 mark] 95)
      have hsec := Lib.hid (rsectors_any (h'.out.fresh ht0))
      have ht0' := Lib.hid ht0
      clear hR hm hmay ht0
      go_enter Try.func64, Try.ntmps64
      go_wp2_with fail
      refine hsec.out.mono ?_
      rintro e w1 ⟨rfl, rfl⟩
      go_wp2_with fail
      refine (hmt.out _).mono ?_
      rintro e w2 ⟨rfl, ht2⟩
      go_wp2_with fail
      go_ret
      have hT := ht0'.out.trans (W := fun _ => False) ht2 (fun _ e => e) (fun _ e => e.elim)
      exact ⟨rfl, ⟨_, _, _, h'.out.fresh hT⟩, refW_new hT⟩
    | true =>
      have hR : mw A M = mwAt A (M.seq % 2) (mBytes M.list) := by unfold mw; rw [if_neg hn, hmay]; rfl
      rw [hR]
      have hmt := Lib.hid (fun w => rmay_to M true w hmay)
      have hby := Lib.hid (fun w => rbytes_any M hm w)
      have hs := mBytes_sec M.list rfl
      generalize hzs : mBytes M.list = zs at *
      have hsp := (may_seq hmay).1
      have htm : M.seq.tmod 2 = M.seq % 2 := Int.tmod_eq_emod_of_nonneg (by omega)
      obtain ⟨seq, turn, old, mark⟩ := M
      have ht0 := (Turned.refl (fun _ => False) w).alloc (.cells #[.int .i64 seq, .int .i64 turn, .int .i64 old, .int .i64 mark] 95)
      have hsec := Lib.hid (rsectors_any (h'.out.fresh ht0))
      have ht0' := Lib.hid ht0
      have hsb := Lib.hid hs.byte
      have hzs' := Lib.hid hzs
      clear hR hm hmay hzs hs ht0
      simp only [] at htm hsp
      go_enter Try.func64, Try.ntmps64
      go_wp2_with fail
      refine hsec.out.mono ?_
      rintro e w1 ⟨rfl, rfl⟩
      go_wp2_with fail
      have hx := Blk.new w 95 #[.int .i64 seq, .int .i64 turn, .int .i64 old, .int .i64 mark]
      refine (hmt.out _).mono ?_
      rintro e w2 ⟨rfl, ht2⟩
      have hx2 := hx.turned ht2 (fun e => e)
      have hT2 := ht0'.out.trans (W := fun _ => False) ht2 (fun _ e => e) (fun _ e => e.elim)
      clear hx ht2
      obtain ⟨q0, q1, q2, q3⟩ := m4_cells hx2
      go_wp2_with fail
      refine wp_region_segs (fun w' => w'.cell? ⟨w.heap.size, 0, none⟩ = some (.int .i64 seq) ∧ w'.cell? ⟨w.heap.size, 1, none⟩ = some (.int .i64 turn) ∧ w'.cell? ⟨w.heap.size, 2, none⟩ = some (.int .i64 old) ∧ w'.cell? ⟨w.heap.size, 3, none⟩ = some (.int .i64 mark)) (segT [0, 1, 2, 3, 4] ++ segF [5, 6, 7]) mixed (by kernel_rfl) (fun _ _ _ _ _ h => h) ?_
      simp only [segT, segF, pickSegs, List.map_cons, List.map_nil, List.cons_append, List.nil_append, List.filterMap_cons, List.filterMap_nil, List.getElem?_cons_zero, List.getElem?_cons_succ, Option.map_some]
      iterate 5 (refine wpSegs_take (v := ?_) ⟨q0, q1, q2, q3⟩ rfl (fun w' hw => ?_) ?_; rotate_left; (obtain ⟨hw0, hw1, hw2, hw3⟩ := hw; go_simp; try with_reducible rfl); try simp only [Act.put, List.setIfInBounds_toArray, List.set_cons_zero, List.set_cons_succ])
      refine wpSegs_run rfl (fun K hK => ?_)
      go_simp
      refine (hby.out _).mono ?_
      rintro e w3 ⟨g, cap, rfl, hr3, hg3, ht3'⟩
      have ht3 : Turned (fun _ => False) w2 w3 := ⟨ht3'.os, ht3'.tape, ht3'.output, ht3'.size, ht3'.block⟩
      have hx3 := hx2.turned ht3 (fun e => e)
      refine hK.out _ _ (m4_cells hx3) ?_
      clear hK K
      have hT3 := hT2.trans (W := fun _ => False) ht3 (fun _ e => e) (fun _ e => e.elim)
      rw [hzs'.out] at hr3
      refine wpSegs_run rfl (fun K hK => ?_)
      go_simp
      refine (rwrite_all (h'.out.fresh hT3) (seq % 2) g 512 cap zs hr3 hsb.out).mono ?_
      rintro e w4 hp4
      obtain ⟨rfl, ⟨lv4, m4, X4, hR4⟩, ht4⟩ := hp4.weak
      clear hp4
      have hx4 := hx3.refTurned ht4 (by decide) (by decide)
      refine hK.out _ _ (m4_cells hx4) ?_
      clear hK K
      refine wpSegs_run rfl (fun K hK => ?_)
      go_simp
      refine hK.out _ _ (m4_cells hx4) ?_
      clear hK K
      refine wpSegs_nil ?_
      have hT4 : Turned (RefW base w) w w4 := refW_trans (refW_new hT3) ht4
      by_cases hc : A.wCode (seq % 2) 512 = 0
      · have hfe : mwAt A (seq % 2) zs = ((A.wNext (seq % 2) 512 zs).sCode, (A.wNext (seq % 2) 512 zs).sNext) := by unfold mwAt; rw [if_pos hc]
        have hfe' := Lib.hid hfe
        clear hfe
        have hc0 : (A.wCode (seq % 2) 512 != 0) = false := by rw [hc]; rfl
        have hc' := Lib.hid hc
        clear hc
        go_wp2_with fail
        refine (rsync_all hR4).mono ?_
        rintro e w5 hp5
        obtain ⟨rfl, hR5, ht5⟩ := hp5.weak
        clear hp5
        go_wp2_with fail
        go_ret
        rw [hfe'.out]
        exact ⟨rfl, hR5, refW_trans hT4 ht5⟩
      · have hfe : mwAt A (seq % 2) zs = (A.wCode (seq % 2) 512, A.wNext (seq % 2) 512 zs) := by unfold mwAt; rw [if_neg hc]
        have hfe' := Lib.hid hfe
        clear hfe
        have hc0 : (A.wCode (seq % 2) 512 != 0) = true := by rw [bne_iff_ne]; exact hc
        clear hc
        go_wp2_with fail
        go_ret
        rw [hfe'.out]
        exact ⟨rfl, ⟨_, _, _, hR4⟩, hT4⟩

def RFmtRel (base r : Nat) (A : DA) (w : World) (v : Value) (wr : World) : Prop :=
  ∃ (j : Nat) (B : DA), (j : Int) ≤ A.n ∧ v = .int .i64 j ∧ (∃ lv m X, IsRef wr base r lv B m X) ∧ B.n = A.n ∧ fmtL A.n.toNat 0 A = fmtL (A.n.toNat - j) j B ∧ Turned (RefW base w) w wr
set_option maxRecDepth 100000 in
set_option maxHeartbeats 1000000 in
theorem rmformat_all {w : World} {base r m : Nat} {lv : Value} {X : Nat → RS} {A : DA} (h : IsRef w base r lv A m X) :
    Calls Try.prog 62 #[.pointer (some ⟨r, 0, none⟩)] w (RW (.int .i64 (fmt A).1) base r (fmt A).2 w) := by
  have hn1 := h.n1
  have hn2 := h.n2
  have h' := Lib.hid h
  have hsec := Lib.hid (rsectors_any h)
  clear h
  by_cases hn : A.n < 40
  · have hR : fmt A = (2, A) := by unfold fmt; rw [if_pos hn]
    rw [hR]
    clear hR
    go_enter Try.func62, Try.ntmps62
    go_wp2_with fail
    refine hsec.out.mono ?_
    rintro e w1 ⟨rfl, rfl⟩
    go_wp2_with fail
    go_ret
    exact ⟨rfl, ⟨_, _, _, h'.out⟩, Turned.refl _ _⟩
  · have hge : 40 ≤ A.n := by omega
    have hmk := make_sector
    have hfm : fmt A = (if (fmtL A.n.toNat 0 A).1 = 0 then (if (fmtL A.n.toNat 0 A).2.sCode = 0 then mw (fmtL A.n.toNat 0 A).2.sNext mOne else ((fmtL A.n.toNat 0 A).2.sCode, (fmtL A.n.toNat 0 A).2.sNext)) else fmtL A.n.toNat 0 A) := by unfold fmt; rw [if_neg hn]
    have hfm' := Lib.hid hfm
    clear hn hfm
    go_enter Try.func62, Try.ntmps62
    go_wp2_with fail
    refine hsec.out.mono ?_
    rintro e w1 ⟨rfl, rfl⟩
    go_wp2_with fail
    go_loopw [3, 4] (fun i _ wr => RFmtRel base r A w i wr) (fun i _ _ => A.n.toNat - (intOf i).toNat)
    case atStart => exact ⟨0, A, by omega, rfl, ⟨_, _, _, h'.out⟩, rfl, rfl, Turned.refl _ _⟩
    case round =>
      obtain ⟨j, B, hj, rfl, ⟨lvB, mB, XB, hB⟩, hBn, hf, ht⟩ := hrel
      have hsecB := rsectors_any hB
      rw [hBn] at hsecB
      have hsecB' := Lib.hid hsecB
      have hB' := Lib.hid hB
      have hf' := Lib.hid hf
      have hBn' := Lib.hid hBn
      clear hB hf hBn hsecB hsec
      by_cases hlt : (j : Int) < A.n
      · have hr := Lib.hid (show RowB (wr.alloc (.cells (u8s noughts).toArray 5)) 5 wr.heap.size 512 512 noughts from ⟨sec_noughts.len, Nat.le_refl _, by unfold maxLen; omega, _, Blk.new wr 5 _, u8s_size sec_noughts.len, List.take_of_length_le (by rw [List.size_toArray.symm, u8s_size sec_noughts.len]; exact Nat.le_refl _)⟩)
        have htB := (Turned.refl (fun _ => False) wr).alloc (.cells (u8s noughts).toArray 5)
        have hcall := Lib.hid (rwrite_all (hB'.out.fresh htB) (j : Int) wr.heap.size 512 512 noughts hr.out sec_noughts.byte)
        have htB' := Lib.hid (refW_trans ht (refW_new htB))
        clear htB
        by_cases hc : B.wCode (j : Int) 512 = 0
        · have hc0 : (B.wCode (j : Int) 512 != 0) = false := by rw [hc]; rfl
          have hst := Lib.hid (hf'.out.trans (fmtL_step (by omega) hc))
          clear hc
          go_wp2_with fail
          refine hsecB'.out.mono ?_
          rintro e w2 ⟨rfl, rfl⟩
          go_wp2_with fail
          refine hcall.out.mono ?_
          rintro e w3 hp3
          obtain ⟨rfl, hD3, ht3⟩ := hp3.weak
          have hR : RFmtRel base r A w (.int .i64 ((j + 1 : Nat) : Int)) w3 := ⟨j + 1, _, by omega, rfl, hD3, by rw [wNext_n]; exact hBn'.out, by rw [hst.out]; rfl, refW_trans htB'.out ht3⟩
          have hR' := Lib.hid hR
          clear hR hD3 ht3 hp3
          go_wp2_with fail
          go_roundw
          case rel =>
            have hz : Value.int .i64 ((j : Int) + 1) = .int .i64 ((j + 1 : Nat) : Int) := by go_num
            first
            | (rw [hz]; exact hR'.out)
            | ((repeat apply Exists.intro); exact ⟨by rw [hz]; exact hR'.out, rfl⟩)
          case measure => simp [intOf]; omega
        · have hc0 : (B.wCode (j : Int) 512 != 0) = true := by rw [bne_iff_ne]; exact hc
          have hst := Lib.hid (hf'.out.trans (fmtL_stop (by omega) hc))
          have hc' := Lib.hid hc
          clear hc
          go_wp2_with fail
          refine hsecB'.out.mono ?_
          rintro e w2 ⟨rfl, rfl⟩
          go_wp2_with fail
          refine hcall.out.mono ?_
          rintro e w3 hp3
          obtain ⟨rfl, hD3, ht3⟩ := hp3.weak
          clear hp3
          go_wp2_with fail
          go_ret
          have hfe : fmt A = (B.wCode (j : Int) 512, B.wNext (j : Int) 512 noughts) := by rw [hfm'.out, hst.out, if_neg hc'.out]
          rw [hfe]
          exact ⟨rfl, hD3, refW_trans htB'.out ht3⟩
      · have hjn : A.n.toNat - j = 0 := by omega
        have hge2 : A.n ≤ (j : Int) := by omega
        have hst := Lib.hid (show fmtL A.n.toNat 0 A = (0, B) by rw [hf'.out, hjn]; rfl)
        clear hjn
        by_cases hc : B.sCode = 0
        · have hc0 : (B.sCode != 0) = false := by rw [hc]; rfl
          have hc' := Lib.hid hc
          clear hc
          go_wp2_with fail
          refine hsecB'.out.mono ?_
          rintro e w2 ⟨rfl, rfl⟩
          go_wp2_with fail
          refine (rsync_all hB'.out).mono ?_
          rintro e w3 hp3
          obtain ⟨rfl, ⟨lv3, m3, X3, hR3⟩, ht3⟩ := hp3.weak
          clear hp3
          go_wp2_with fail
          refine (rmwrite_all hR3 mOne ⟨⟨by decide, by decide⟩, ⟨by decide, by decide⟩, ⟨by decide, by decide⟩, ⟨by decide, by decide⟩⟩).mono ?_
          rintro e w4 ⟨rfl, hD4, ht4⟩
          go_wp2_with fail
          go_ret
          have hfe : fmt A = mw B.sNext mOne := by rw [hfm'.out, hst.out, if_pos rfl, if_pos hc'.out]
          rw [hfe]
          exact ⟨rfl, hD4, refW_trans (refW_trans ht ht3) ht4⟩
        · have hc0 : (B.sCode != 0) = true := by rw [bne_iff_ne]; exact hc
          have hc' := Lib.hid hc
          clear hc
          go_wp2_with fail
          refine hsecB'.out.mono ?_
          rintro e w2 ⟨rfl, rfl⟩
          go_wp2_with fail
          refine (rsync_all hB'.out).mono ?_
          rintro e w3 hp3
          obtain ⟨rfl, hD3, ht3⟩ := hp3.weak
          clear hp3
          go_wp2_with fail
          go_ret
          have hfe : fmt A = (B.sCode, B.sNext) := by rw [hfm'.out, hst.out, if_pos rfl, if_neg hc'.out]
          rw [hfe]
          exact ⟨rfl, hD3, refW_trans ht ht3⟩

-- PRINTED BY wip/gen_mrks.py
theorem IsRef.lat_sec {w : World} {base r m : Nat} {lv : Value} {X : Nat → RS} {A : DA} (h : IsRef w base r lv A m X) (k : Int) (h0 : 0 ≤ k) (h1 : k < A.n) : Sec (A.lat k) := by
  by_cases hk : ∃ i, i < m ∧ (X i).key = k
  · obtain ⟨i, hi, rfl⟩ := hk
    rw [(h.has i hi).1]
    exact (h.byt i hi).1.1
  · rw [(h.none_ k h0 h1 (fun i hi e => hk ⟨i, hi, e⟩)).1]
    exact sec_noughts
def RRdRel (base r : Nat) (A : DA) (w : World) (i : Value) (wr : World) : Prop :=
  ∃ j : Nat, j ≤ 2 ∧ i = .int .i64 j ∧ (∃ lv m X, IsRef wr base r lv A m X) ∧ Blk wr w.heap.size 95 (m4Cells M4.zero) ∧ Blk wr (w.heap.size + 1) 95 (m4Cells (bestAt A j)) ∧ Turned (fun _ => False) w wr ∧ (A.down = true → j = 0)
set_option maxRecDepth 100000 in
set_option maxHeartbeats 2000000 in
theorem rmread_all {w : World} {base r m : Nat} {lv : Value} {X : Nat → RS} {A : DA} (h : IsRef w base r lv A m X) :
    Calls Try.prog 65 #[.pointer (some ⟨r, 0, none⟩)] w (MrPost (mread A) w) := by
  have hn1 := h.n1
  have hn2 := h.n2
  have h' := Lib.hid h
  clear h
  by_cases hn : A.n < 40
  · have hR : mread A = (2, M4.zero) := by unfold mread; rw [if_pos hn]
    have hR' := Lib.hid hR
    have ht0 := (Turned.refl (fun _ => False) w).alloc (.cells #[.int .i64 0, .int .i64 0, .int .i64 0, .int .i64 0] 95)
    have hB0 := Lib.hid (Blk.new w 95 #[.int .i64 0, .int .i64 0, .int .i64 0, .int .i64 0])
    have hsec := Lib.hid (rsectors_any (h'.out.fresh ht0))
    clear hR
    go_enter Try.func65, Try.ntmps65
    go_wp2_with fail
    refine hsec.out.mono ?_
    rintro e w1 ⟨rfl, rfl⟩
    go_wp2_with fail
    refine bodyPost_ret (v := .tuple #[.agg #[.int .i64 0, .int .i64 0, .int .i64 0, .int .i64 0], .int .i64 2]) (by simp [results, Try.results65, go_sem]) rfl ?_
    rw [hR'.out]
    exact ⟨rfl, ht0⟩
  · have hge : 40 ≤ A.n := by omega
    have ht0 := (Turned.refl (fun _ => False) w).alloc (.cells #[.int .i64 0, .int .i64 0, .int .i64 0, .int .i64 0] 95)
    have hsec := Lib.hid (rsectors_any (h'.out.fresh ht0))
    have hR0 : RRdRel base r A w (.int .i64 0) ((w.alloc (.cells #[.int .i64 0, .int .i64 0, .int .i64 0, .int .i64 0] 95)).alloc (.cells #[.int .i64 0, .int .i64 0, .int .i64 0, .int .i64 0] 95)) :=
      ⟨0, by omega, rfl, ⟨_, _, _, h'.out.fresh (((Turned.refl (fun _ => False) w).alloc _).alloc _)⟩, (Blk.new w _ _).alloc _, Blk.new_at _ _ _ (by simp), ((Turned.refl (fun _ => False) w).alloc _).alloc _, fun _ => rfl⟩
    have hR0' := Lib.hid hR0
    clear hn hR0 ht0
    go_enter Try.func65, Try.ntmps65
    go_wp2_with fail
    refine hsec.out.mono ?_
    rintro e w1 ⟨rfl, rfl⟩
    clear hsec
    go_wp2_with fail
    go_loopw [5, 6, 7, 8, 9] (fun i _ _ _ _ wr => RRdRel base r A w i wr) (fun i _ _ _ _ _ => 2 - (intOf i).toNat)
    case atStart => exact hR0'.out
    case round =>
      obtain ⟨j, hj, rfl, ⟨lvI, mI, XI, hI⟩, hB0, hB1, hT, hdj⟩ := hrel
      clear hR0'
      have hI' := Lib.hid hI
      have hB0' := Lib.hid hB0
      have hB1' := Lib.hid hB1
      clear hI hB0 hB1
      obtain ⟨wo, hwo⟩ : ∃ wo : World, wo = wr := ⟨_, rfl⟩
      subst hwo
      by_cases hlt : j < 2
      · clear hdj
        have hji : (j : Int) < 2 := by omega
        by_cases hd : A.down = true
        · have hR' := Lib.hid (show mread A = (8, M4.zero) by unfold mread; rw [if_neg (by omega), if_pos hd])
          go_wp2_with fail
          refine (rread_down hI'.out j hd).mono ?_
          rintro e w3 ⟨rfl, rfl⟩
          obtain ⟨z0, z1, z2, z3⟩ := m4_cells hB0'.out
          have hfz := hB0'.out.frozen
          have hFin := Lib.hid ((((hB0'.out.set_ 0 (.int .i64 0)).set_ 1 (.int .i64 0)).set_ 2 (.int .i64 0)).set_ 3 (.int .i64 0))
          have hTf : Turned (fun _ => False) w ((((wo.setCell ⟨w.heap.size, 0, none⟩ (.int .i64 0)).setCell ⟨w.heap.size, 1, none⟩ (.int .i64 0)).setCell ⟨w.heap.size, 2, none⟩ (.int .i64 0)).setCell ⟨w.heap.size, 3, none⟩ (.int .i64 0)) := (((hT.setCell (p := ⟨w.heap.size, 0, none⟩) (.inr (Nat.le_refl _)) _).setCell (p := ⟨w.heap.size, 1, none⟩) (.inr (Nat.le_refl _)) _).setCell (p := ⟨w.heap.size, 2, none⟩) (.inr (Nat.le_refl _)) _).setCell (p := ⟨w.heap.size, 3, none⟩) (.inr (Nat.le_refl _)) _
          go_wp2_with fail
          clear z0 z1 z2 z3 hfz
          generalize (((wo.setCell ⟨w.heap.size, 0, none⟩ (.int .i64 0)).setCell ⟨w.heap.size, 1, none⟩ (.int .i64 0)).setCell ⟨w.heap.size, 2, none⟩ (.int .i64 0)).setCell ⟨w.heap.size, 3, none⟩ (.int .i64 0) = wf at *
          obtain ⟨z0, z1, z2, z3⟩ := m4_cells hFin.out
          refine bodyPost_ret (v := .tuple #[.agg #[.int .i64 0, .int .i64 0, .int .i64 0, .int .i64 0], .int .i64 8]) (by simp [results, Try.results65, go_sem, z0, z1, z2, z3]) rfl ?_
          rw [hR'.out]
          exact ⟨rfl, hTf⟩
        · have hd' : A.down = false := by simpa using hd
          clear hd
          have hsec1 : Sec (A.lat j) := hI'.out.lat_sec j (by omega) (by omega)
          go_wp2_with fail
          refine (rread_ok hI'.out j hd' (by omega) (by omega)).mono ?_
          rintro e w3 ⟨g, cap, rfl, hr, hg, ht3⟩
          have hI3 := Lib.hid (hI'.out.fresh ht3)
          have hB03 := Lib.hid (hB0'.out.turned ht3 (fun e => e))
          have hB13 := Lib.hid (hB1'.out.turned ht3 (fun e => e))
          have hT3 := hT.trans (W := fun _ => False) ht3 (fun _ e => e) (fun _ e => e.elim)
          have hof := Lib.hid (rof_any g cap (A.lat j) j w3 hr hsec1)
          clear hr hsec1 hg ht3
          go_wp2_with fail
          refine hof.out.mono ?_
          rintro e w4 ⟨rfl, ht4⟩
          have hT4 := hT3.trans (W := fun _ => False) ht4 (fun _ e => e) (fun _ e => e.elim)
          have hI4 := hI3.out.fresh ht4
          have hB04 := hB03.out.turned ht4 (fun e => e)
          have hB14 := hB13.out.turned ht4 (fun e => e)
          have hbn := Lib.hid (show bestAt A (j + 1) = if ofOk (A.lat j) j && decide ((bestAt A j).seq < (M4.of (A.lat j)).seq) then M4.of (A.lat j) else bestAt A j from by show rdAt (A.lat j) j (bestAt A j) = _; unfold rdAt; rw [rdOk_of])
          generalize hbe : bestAt A j = best at *
          obtain ⟨bs, bt, bo, bm⟩ := best
          generalize hre : ofRes (A.lat j) j = res at *
          obtain ⟨n0, n1, n2, n3⟩ := res
          have hx5 := Lib.hid (Blk.new w4 95 #[.int .i64 n0, .int .i64 n1, .int .i64 n2, .int .i64 n3])
          have ht5 := (Turned.refl (fun _ => False) w4).alloc (.cells #[.int .i64 n0, .int .i64 n1, .int .i64 n2, .int .i64 n3] 95)
          have hI5 := Lib.hid (hI4.fresh ht5)
          have hB05 := Lib.hid (hB04.turned ht5 (fun e => e))
          have hB15 := Lib.hid (hB14.turned ht5 (fun e => e))
          have hT5 := Lib.hid (hT4.trans (W := fun _ => False) ht5 (fun _ e => e) (fun _ e => e.elim))
          have hbe' := Lib.hid hbe
          have hre' := Lib.hid hre
          clear hI4 hB04 hB14 hT4 ht5 hbe hre hT3 ht4
          obtain ⟨x0, x1, x2, x3⟩ := m4_cells hx5.out
          obtain ⟨y0, y1, y2, y3⟩ := m4_cells hB15.out
          have hfy := hB15.out.frozen
          have hkeep := Lib.hid (fun (hno : (ofOk (A.lat j) j && decide ((⟨bs, bt, bo, bm⟩ : M4).seq < (M4.of (A.lat j)).seq)) = false) => (show RRdRel base r A w (.int .i64 ((j + 1 : Nat) : Int)) (w4.alloc (.cells #[.int .i64 n0, .int .i64 n1, .int .i64 n2, .int .i64 n3] 95)) from
            ⟨j + 1, by omega, rfl, ⟨_, _, _, hI5.out⟩, hB05.out, by rw [hbn.out, hno]; exact hB15.out, hT5.out, fun e => by rw [hd'] at e; cases e⟩))
          cases hok : ofOk (A.lat j) j with
          | false =>
            have hR' := Lib.hid (hkeep.out (by rw [hok]; rfl))
            clear hok
            go_wp2_with fail
            go_roundw
            case rel =>
              have hz : Value.int .i64 ((j : Int) + 1) = .int .i64 ((j + 1 : Nat) : Int) := by go_num
              first
              | (rw [hz]; exact hR'.out)
              | ((repeat apply Exists.intro); exact ⟨by rw [hz]; exact hR'.out, rfl⟩)
            case measure => simp [intOf]; omega
          | true =>
            have hoe := Lib.hid (show M4.of (A.lat j) = ⟨n0, n1, n2, n3⟩ by rw [← hre'.out]; unfold ofRes; rw [hok]; rfl)
            by_cases hgt : bs < n0
            · have hR' := Lib.hid (show RRdRel base r A w (.int .i64 ((j + 1 : Nat) : Int)) (((((w4.alloc (.cells #[.int .i64 n0, .int .i64 n1, .int .i64 n2, .int .i64 n3] 95)).setCell ⟨(w.heap.size + 1), 0, none⟩ (.int .i64 n0)).setCell ⟨(w.heap.size + 1), 1, none⟩ (.int .i64 n1)).setCell ⟨(w.heap.size + 1), 2, none⟩ (.int .i64 n2)).setCell ⟨(w.heap.size + 1), 3, none⟩ (.int .i64 n3)) from by
                have hS : Turned (· = w.heap.size + 1) (w4.alloc (.cells #[.int .i64 n0, .int .i64 n1, .int .i64 n2, .int .i64 n3] 95)) (((((w4.alloc (.cells #[.int .i64 n0, .int .i64 n1, .int .i64 n2, .int .i64 n3] 95)).setCell ⟨(w.heap.size + 1), 0, none⟩ (.int .i64 n0)).setCell ⟨(w.heap.size + 1), 1, none⟩ (.int .i64 n1)).setCell ⟨(w.heap.size + 1), 2, none⟩ (.int .i64 n2)).setCell ⟨(w.heap.size + 1), 3, none⟩ (.int .i64 n3)) :=
                  ((((Turned.refl (· = w.heap.size + 1) _).setCell (.inl rfl) _).setCell (.inl rfl) _).setCell (.inl rfl) _).setCell (.inl rfl) _
                refine ⟨j + 1, by omega, rfl, ⟨_, _, _, hI5.out.turned hS (fun k t cs hk hb => ?_)⟩, ?_, ?_, ?_, fun e => by rw [hd'] at e; cases e⟩
                · have hk' : k = w.heap.size + 1 := hk
                  subst hk'
                  have := (hb.inj hB15.out).2
                  subst this
                  exact ⟨by decide, by decide, by decide⟩
                · exact hB05.out.turned hS (fun e => by have e' : w.heap.size = w.heap.size + 1 := e; omega)
                · rw [hbn.out, hok, hoe.out, Bool.true_and, if_pos (decide_eq_true hgt)]
                  exact (((hB15.out.set_ 0 (.int .i64 n0)).set_ 1 (.int .i64 n1)).set_ 2 (.int .i64 n2)).set_ 3 (.int .i64 n3)
                · exact hT5.out.trans hS (fun _ e => e) (fun i e => by have e' : i = w.heap.size + 1 := e; exact .inr (by omega)))
              clear hok
              go_wp2_with fail
              go_roundw
              case rel =>
                have hz : Value.int .i64 ((j : Int) + 1) = .int .i64 ((j + 1 : Nat) : Int) := by go_num
                first
                | (rw [hz]; exact hR'.out)
                | ((repeat apply Exists.intro); exact ⟨by rw [hz]; exact hR'.out, rfl⟩)
              case measure => simp [intOf]; omega
            · have hR' := Lib.hid (hkeep.out (by rw [hok, hoe.out]; simp only [Bool.true_and]; exact decide_eq_false hgt))
              have hge : n0 ≤ bs := by omega
              clear hok hgt
              go_wp2_with fail
              go_roundw
              case rel =>
                have hz : Value.int .i64 ((j : Int) + 1) = .int .i64 ((j + 1 : Nat) : Int) := by go_num
                first
                | (rw [hz]; exact hR'.out)
                | ((repeat apply Exists.intro); exact ⟨by rw [hz]; exact hR'.out, rfl⟩)
              case measure => simp [intOf]; omega
      · have hj2 : j = 2 := by omega
        subst hj2
        generalize hbe : bestAt A 2 = best at *
        obtain ⟨bs, bt, bo, bm⟩ := best
        have hbe' := Lib.hid hbe
        clear hbe
        obtain ⟨p0, p1, p2, p3⟩ := m4_cells hB1'.out
        cases hdn : A.down with
        | true => exact absurd (hdj hdn) (by omega)
        | false =>
          have hup : mread A = mreadUp A := by unfold mread; rw [if_neg (by omega), hdn]; rfl
          by_cases hs0 : bs = 0
          · have hR' := Lib.hid (show mread A = (4, M4.zero) by rw [hup]; unfold mreadUp; rw [hbe'.out, if_pos hs0])
            have hsb : (bs == 0) = true := by rw [beq_iff_eq]; exact hs0
            clear hs0 hup hdn hdj
            obtain ⟨z0, z1, z2, z3⟩ := m4_cells hB0'.out
            have hfz := hB0'.out.frozen
            have hFin := Lib.hid ((((hB0'.out.set_ 0 (.int .i64 0)).set_ 1 (.int .i64 0)).set_ 2 (.int .i64 0)).set_ 3 (.int .i64 0))
            have hTf : Turned (fun _ => False) w ((((wo.setCell ⟨w.heap.size, 0, none⟩ (.int .i64 0)).setCell ⟨w.heap.size, 1, none⟩ (.int .i64 0)).setCell ⟨w.heap.size, 2, none⟩ (.int .i64 0)).setCell ⟨w.heap.size, 3, none⟩ (.int .i64 0)) := (((hT.setCell (p := ⟨w.heap.size, 0, none⟩) (.inr (Nat.le_refl _)) _).setCell (p := ⟨w.heap.size, 1, none⟩) (.inr (Nat.le_refl _)) _).setCell (p := ⟨w.heap.size, 2, none⟩) (.inr (Nat.le_refl _)) _).setCell (p := ⟨w.heap.size, 3, none⟩) (.inr (Nat.le_refl _)) _
            go_wp2_with fail
            clear z0 z1 z2 z3 hfz
            generalize (((wo.setCell ⟨w.heap.size, 0, none⟩ (.int .i64 0)).setCell ⟨w.heap.size, 1, none⟩ (.int .i64 0)).setCell ⟨w.heap.size, 2, none⟩ (.int .i64 0)).setCell ⟨w.heap.size, 3, none⟩ (.int .i64 0) = wf at *
            obtain ⟨z0, z1, z2, z3⟩ := m4_cells hFin.out
            refine bodyPost_ret (v := .tuple #[.agg #[.int .i64 0, .int .i64 0, .int .i64 0, .int .i64 0], .int .i64 4]) (by simp [results, Try.results65, go_sem, z0, z1, z2, z3]) rfl ?_
            rw [hR'.out]
            exact ⟨rfl, hTf⟩
          · have hR' := Lib.hid (show mread A = (0, ⟨bs, bt, bo, bm⟩) by rw [hup]; unfold mreadUp; rw [hbe'.out, if_neg hs0])
            have hsb : (bs == 0) = false := by rw [beq_eq_false_iff_ne]; exact hs0
            clear hs0 hup hdn hdj
            obtain ⟨z0, z1, z2, z3⟩ := m4_cells hB0'.out
            have hfz := hB0'.out.frozen
            have hFin := Lib.hid ((((hB0'.out.set_ 0 (.int .i64 bs)).set_ 1 (.int .i64 bt)).set_ 2 (.int .i64 bo)).set_ 3 (.int .i64 bm))
            have hTf : Turned (fun _ => False) w ((((wo.setCell ⟨w.heap.size, 0, none⟩ (.int .i64 bs)).setCell ⟨w.heap.size, 1, none⟩ (.int .i64 bt)).setCell ⟨w.heap.size, 2, none⟩ (.int .i64 bo)).setCell ⟨w.heap.size, 3, none⟩ (.int .i64 bm)) := (((hT.setCell (p := ⟨w.heap.size, 0, none⟩) (.inr (Nat.le_refl _)) _).setCell (p := ⟨w.heap.size, 1, none⟩) (.inr (Nat.le_refl _)) _).setCell (p := ⟨w.heap.size, 2, none⟩) (.inr (Nat.le_refl _)) _).setCell (p := ⟨w.heap.size, 3, none⟩) (.inr (Nat.le_refl _)) _
            go_wp2_with fail
            clear z0 z1 z2 z3 hfz
            generalize (((wo.setCell ⟨w.heap.size, 0, none⟩ (.int .i64 bs)).setCell ⟨w.heap.size, 1, none⟩ (.int .i64 bt)).setCell ⟨w.heap.size, 2, none⟩ (.int .i64 bo)).setCell ⟨w.heap.size, 3, none⟩ (.int .i64 bm) = wf at *
            obtain ⟨z0, z1, z2, z3⟩ := m4_cells hFin.out
            refine bodyPost_ret (v := .tuple #[.agg #[.int .i64 bs, .int .i64 bt, .int .i64 bo, .int .i64 bm], .int .i64 0]) (by simp [results, Try.results65, go_sem, z0, z1, z2, z3]) rfl ?_
            rw [hR'.out]
            exact ⟨rfl, hTf⟩
end Go.Proofs.Ytobjoafhhchjgaa
