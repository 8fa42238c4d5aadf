/-
  Masters: Write and Format on the program's disk.
-/
import Derived.Test.YtobjoafhhchjgaaMrkB
import Derived.Test.YtobjoafhhchjgaaBits
namespace Go.Proofs.Ytobjoafhhchjgaa
open Go.RowKit Go.Maps

/-- What a master's write answers, and what comes of the disk. -/
def mwAt (A : DA) (k : Int) (zs : List Int) : Int × DA :=
  if A.wCode k 512 = 0 then ((A.wNext k 512 zs).sCode, (A.wNext k 512 zs).sNext) else (A.wCode k 512, A.wNext k 512 zs)
def mw (A : DA) (m : M4) : Int × DA := if A.n < 40 then (2, A) else if m.may then mwAt A (m.seq % 2) (mBytes m.list) else (2, A)
/-- n more sectors from k on are made noughts. -/
def fmtL : Nat → Int → DA → Int × DA
  | 0, _, A => (0, A)
  | n + 1, k, A => if A.wCode k 512 = 0 then fmtL n (k + 1) (A.wNext k 512 noughts) else (A.wCode k 512, A.wNext k 512 noughts)
def mOne : M4 := ⟨1, 1, 1, 0⟩
def fmt (A : DA) : Int × DA := if A.n < 40 then (2, A) else
  if (fmtL A.n.toNat 0 A).1 = 0 then
    (if (fmtL A.n.toNat 0 A).2.sCode = 0 then mw (fmtL A.n.toNat 0 A).2.sNext mOne else ((fmtL A.n.toNat 0 A).2.sCode, (fmtL A.n.toNat 0 A).2.sNext))
  else fmtL A.n.toNat 0 A

theorem may_seq {m : M4} (h : m.may = true) : 1 ≤ m.seq ∧ m.seq ≤ 2305843009213693952 := by
  unfold M4.may inB at h
  simp at h
  omega
def StP (R : Int × DA) (d s o : Nat) (w : World) (e : Ending) (w' : World) : Prop := StPost R.1 d s o R.2 w e w'

set_option maxRecDepth 100000 in
set_option maxHeartbeats 1000000 in
theorem mwrite_all {w : World} {d s o : Nat} {A : DA} (h : IsDisk w d s o A) (m : M4) (hm : m.Ok) :
    Calls Try.prog 37 #[.pointer (some ⟨d, 0, none⟩), .agg #[.int .i64 m.seq, .int .i64 m.turn, .int .i64 m.old, .int .i64 m.mark]] w (StP (mw A m) d s o w) := by
  obtain ⟨c0, _, _, _, _⟩ := dsk_cells h
  have hn1 := h.n1
  have h' := Lib.hid h
  clear h
  by_cases hn : A.n < 40
  · have hb : bigC A.n = 2 := by unfold bigC; rw [if_pos hn]
    have hR : mw A m = (2, A) := by unfold mw; rw [if_pos hn]
    rw [hR]
    obtain ⟨seq, turn, old, mark⟩ := m
    have hbig := Lib.hid (big_any d A.n (w.alloc (.cells #[.int .i64 seq, .int .i64 turn, .int .i64 old, .int .i64 mark] 59)) ((cell_turned ((Turned.refl (fun _ => False) w).alloc _) c0 (fun e => e))) hn1)
    rw [hb] at hbig
    clear hb hR c0 hm
    go_enter Try.func37, Try.ntmps37
    go_wp2_with fail
    refine hbig.out.mono ?_
    rintro e w1 ⟨rfl, rfl⟩
    go_wp2_with fail
    go_ret
    exact ⟨rfl, h'.out.fresh ((Turned.refl _ w).alloc _), (Turned.refl _ w).alloc _⟩
  · have hb : bigC A.n = 0 := by unfold bigC; rw [if_neg hn]
    cases hmay : m.may with
    | false =>
      have hR : mw A m = (2, A) := by unfold mw; rw [if_neg hn, hmay]; rfl
      rw [hR]
      have hmt := Lib.hid (fun w => may_to m false w hmay)
      obtain ⟨seq, turn, old, mark⟩ := m
      have hbig := Lib.hid (big_any d A.n (w.alloc (.cells #[.int .i64 seq, .int .i64 turn, .int .i64 old, .int .i64 mark] 59)) ((cell_turned ((Turned.refl (fun _ => False) w).alloc _) c0 (fun e => e))) hn1)
      rw [hb] at hbig
      clear hb hR c0 hm hmay
      go_enter Try.func37, Try.ntmps37
      go_wp2_with fail
      refine hbig.out.mono ?_
      rintro e w1 ⟨rfl, rfl⟩
      go_wp2_with fail
      refine (hmt.out _).mono ?_
      rintro e w2 ⟨rfl, ht2⟩
      go_wp2_with fail
      go_ret
      have hT := ((Turned.refl (fun _ => False) w).alloc (.cells #[.int .i64 seq, .int .i64 turn, .int .i64 old, .int .i64 mark] 59)).trans (W := fun _ => False) ht2 (fun _ e => e) (fun _ e => e.elim)
      exact ⟨rfl, h'.out.fresh hT, hT.mono (fun _ e => e.elim)⟩
    | true =>
      have hR : mw A m = mwAt A (m.seq % 2) (mBytes m.list) := by unfold mw; rw [if_neg hn, hmay]; rfl
      rw [hR]
      have hmt := Lib.hid (fun w => may_to m true w hmay)
      have hby := Lib.hid (fun w => mbytes_any m hm w)
      have hs := mBytes_sec m.list rfl
      generalize hzs : mBytes m.list = zs at *
      have hand := Lib.hid (i64_and1 m.seq)
      obtain ⟨seq, turn, old, mark⟩ := m
      have hbig := Lib.hid (big_any d A.n (w.alloc (.cells #[.int .i64 seq, .int .i64 turn, .int .i64 old, .int .i64 mark] 59)) ((cell_turned ((Turned.refl (fun _ => False) w).alloc _) c0 (fun e => e))) hn1)
      rw [hb] at hbig
      have hsb := Lib.hid hs.byte
      have hzs' := Lib.hid hzs
      clear hb hR c0 hm hmay hzs hs
      go_enter Try.func37, Try.ntmps37
      go_wp2_with fail
      refine hbig.out.mono ?_
      rintro e w1 ⟨rfl, rfl⟩
      go_wp2_with fail
      have hx := Blk.new w 59 #[.int .i64 seq, .int .i64 turn, .int .i64 old, .int .i64 mark]
      refine (hmt.out _).mono ?_
      rintro e w2 ⟨rfl, ht2⟩
      have hx2 := hx.turned ht2 (fun e => e)
      have hT2 := ((Turned.refl (fun _ => False) w).alloc (.cells #[.int .i64 seq, .int .i64 turn, .int .i64 old, .int .i64 mark] 59)).trans (W := fun _ => False) ht2 (fun _ e => e) (fun _ e => e.elim)
      clear hx ht2
      have q0 : w2.cell? ⟨w.heap.size, 0, none⟩ = some (.int .i64 seq) := hx2.cell 0
      have q1 : w2.cell? ⟨w.heap.size, 1, none⟩ = some (.int .i64 turn) := hx2.cell 1
      have q2 : w2.cell? ⟨w.heap.size, 2, none⟩ = some (.int .i64 old) := hx2.cell 2
      have q3 : w2.cell? ⟨w.heap.size, 3, none⟩ = some (.int .i64 mark) := hx2.cell 3
      go_wp2_with fail
      refine wp_region_segs (fun w' => w'.cell? ⟨w.heap.size, 0, none⟩ = some (.int .i64 seq) ∧ w'.cell? ⟨w.heap.size, 1, none⟩ = some (.int .i64 turn) ∧ w'.cell? ⟨w.heap.size, 2, none⟩ = some (.int .i64 old) ∧ w'.cell? ⟨w.heap.size, 3, none⟩ = some (.int .i64 mark)) (segT [0, 1, 2, 3, 4] ++ segF [5, 6, 7]) mixed (by kernel_rfl) (fun _ _ _ _ _ h => h) ?_
      simp only [segT, segF, pickSegs, List.map_cons, List.map_nil, List.cons_append, List.nil_append, List.filterMap_cons, List.filterMap_nil, List.getElem?_cons_zero, List.getElem?_cons_succ, Option.map_some]
      iterate 5 (refine wpSegs_take (v := ?_) ⟨q0, q1, q2, q3⟩ rfl (fun w' hw => ?_) ?_; rotate_left; (obtain ⟨hw0, hw1, hw2, hw3⟩ := hw; go_simp; try with_reducible rfl); try simp only [Act.put, List.setIfInBounds_toArray, List.set_cons_zero, List.set_cons_succ])
      refine wpSegs_run rfl (fun K hK => ?_)
      go_simp
      refine (hby.out _).mono ?_
      rintro e w3 ⟨g, cap, rfl, hr3, hg3, ht3'⟩
      have ht3 : Turned (fun _ => False) w2 w3 := ⟨ht3'.os, ht3'.tape, ht3'.output, ht3'.size, ht3'.block⟩
      have hx3 := hx2.turned ht3 (fun e => e)
      refine hK.out _ _ ⟨hx3.cell 0, hx3.cell 1, hx3.cell 2, hx3.cell 3⟩ ?_
      clear hK K
      have hD3 := h'.out.fresh (hT2.trans (W := fun _ => False) ht3 (fun _ e => e) (fun _ e => e.elim))
      rw [hzs'.out] at hr3
      refine wpSegs_run rfl (fun K hK => ?_)
      go_simp
      rw [hand.out]
      refine (dwrite_all hD3 (seq % 2) g 512 cap zs hr3 hsb.out).mono ?_
      rintro e w4 ⟨rfl, hD4, ht4⟩
      have hx4 := hx3.dskTurned hD3 ht4 (by decide)
      refine hK.out _ _ ⟨hx4.cell 0, hx4.cell 1, hx4.cell 2, hx4.cell 3⟩ ?_
      clear hK K
      refine wpSegs_run rfl (fun K hK => ?_)
      go_simp
      refine hK.out _ _ ⟨hx4.cell 0, hx4.cell 1, hx4.cell 2, hx4.cell 3⟩ ?_
      clear hK K
      refine wpSegs_nil ?_
      have hT4 : Turned (dskW d s o) w w4 := ((hT2.trans (W := fun _ => False) ht3 (fun _ e => e) (fun _ e => e.elim)).mono (W' := dskW d s o) (fun _ e => e.elim)).trans ht4 (fun _ e => e) (fun _ e => .inl e)
      by_cases hc : A.wCode (seq % 2) 512 = 0
      · have hfe : mwAt A (seq % 2) zs = ((A.wNext (seq % 2) 512 zs).sCode, (A.wNext (seq % 2) 512 zs).sNext) := by unfold mwAt; rw [if_pos hc]
        have hfe' := Lib.hid hfe
        clear hfe
        have hc0 : (A.wCode (seq % 2) 512 != 0) = false := by rw [hc]; rfl
        have hc' := Lib.hid hc
        clear hc
        go_wp2_with fail
        refine (dsync_all hD4).mono ?_
        rintro e w5 ⟨rfl, hD5, ht5⟩
        go_wp2_with fail
        go_ret
        rw [hfe'.out]
        exact ⟨rfl, hD5, hT4.trans ht5 (fun _ e => e) (fun _ e => .inl e)⟩
      · have hfe : mwAt A (seq % 2) zs = (A.wCode (seq % 2) 512, A.wNext (seq % 2) 512 zs) := by unfold mwAt; rw [if_neg hc]
        have hfe' := Lib.hid hfe
        clear hfe
        have hc0 : (A.wCode (seq % 2) 512 != 0) = true := by rw [bne_iff_ne]; exact hc
        clear hc
        go_wp2_with fail
        go_ret
        rw [hfe'.out]
        exact ⟨rfl, hD4, hT4⟩

def FmtRel (d s o : Nat) (A : DA) (w : World) (v : Value) (wr : World) : Prop :=
  ∃ (j : Nat) (B : DA), (j : Int) ≤ A.n ∧ v = .int .i64 j ∧ IsDisk wr d s o B ∧ B.n = A.n ∧ fmtL A.n.toNat 0 A = fmtL (A.n.toNat - j) j B ∧ Turned (dskW d s o) w wr
theorem wNext_n (A : DA) (k : Int) (n : Nat) (zs : List Int) : (A.wNext k n zs).n = A.n := by
  unfold DA.wNext
  split
  · rfl
  · split
    · split <;> rfl
    · rfl
theorem fmtL_step {n : Nat} {k : Int} {B : DA} (hn : 0 < n) (hc : B.wCode k 512 = 0) : fmtL n k B = fmtL (n - 1) (k + 1) (B.wNext k 512 noughts) := by
  obtain ⟨m, rfl⟩ : ∃ m, n = m + 1 := ⟨n - 1, by omega⟩
  show (if _ then _ else _) = _
  rw [if_pos hc]; rfl
theorem fmtL_stop {n : Nat} {k : Int} {B : DA} (hn : 0 < n) (hc : ¬ B.wCode k 512 = 0) : fmtL n k B = (B.wCode k 512, B.wNext k 512 noughts) := by
  obtain ⟨m, rfl⟩ : ∃ m, n = m + 1 := ⟨n - 1, by omega⟩
  show (if _ then _ else _) = _
  rw [if_neg hc]

set_option maxRecDepth 100000 in
set_option maxHeartbeats 1000000 in
theorem mformat_all {w : World} {d s o : Nat} {A : DA} (h : IsDisk w d s o A) :
    Calls Try.prog 38 #[.pointer (some ⟨d, 0, none⟩)] w (StP (fmt A) d s o w) := by
  obtain ⟨c0, _, _, _, _⟩ := dsk_cells h
  have hn1 := h.n1
  have hn2 := h.n2
  have h' := Lib.hid h
  clear h
  by_cases hn : A.n < 40
  · have hR : fmt A = (2, A) := by unfold fmt; rw [if_pos hn]
    rw [hR]
    have hb : bigC A.n = 2 := by unfold bigC; rw [if_pos hn]
    have hbig := Lib.hid (big_any d A.n w c0 hn1)
    rw [hb] at hbig
    clear hR hb
    go_enter Try.func38, Try.ntmps38
    go_wp2_with fail
    refine hbig.out.mono ?_
    rintro e w1 ⟨rfl, rfl⟩
    go_wp2_with fail
    go_ret
    exact ⟨rfl, h'.out, Turned.refl _ _⟩
  · have hb : bigC A.n = 0 := by unfold bigC; rw [if_neg hn]
    have hbig := Lib.hid (big_any d A.n w c0 hn1)
    rw [hb] at hbig
    have hge : 40 ≤ A.n := by omega
    have hmk := make_sector
    have hfm : fmt A = (if (fmtL A.n.toNat 0 A).1 = 0 then (if (fmtL A.n.toNat 0 A).2.sCode = 0 then mw (fmtL A.n.toNat 0 A).2.sNext mOne else ((fmtL A.n.toNat 0 A).2.sCode, (fmtL A.n.toNat 0 A).2.sNext)) else fmtL A.n.toNat 0 A) := by unfold fmt; rw [if_neg hn]
    have hfm' := Lib.hid hfm
    clear hb hn hfm
    go_enter Try.func38, Try.ntmps38
    go_wp2_with fail
    refine hbig.out.mono ?_
    rintro e w1 ⟨rfl, rfl⟩
    go_wp2_with fail
    refine (sectors_any d A.n _ c0).mono ?_
    rintro e w1 ⟨rfl, rfl⟩
    go_wp2_with fail
    go_loopw [4, 5, 14] (fun _ _ i wr => FmtRel d s o A w i wr) (fun _ _ i _ => A.n.toNat - (intOf i).toNat)
    case atStart => exact ⟨0, A, by omega, rfl, h'.out, rfl, rfl, Turned.refl _ _⟩
    case round =>
      obtain ⟨j, B, hj, rfl, hB, hBn, hf, ht⟩ := hrel
      have hB' := Lib.hid hB
      have hf' := Lib.hid hf
      have hBn' := Lib.hid hBn
      clear c0 hB hf hBn
      by_cases hlt : (j : Int) < A.n
      · have hr := Lib.hid (show RowB (wr.alloc (.cells (u8s noughts).toArray 5)) 5 wr.heap.size 512 512 noughts from ⟨sec_noughts.len, Nat.le_refl _, by unfold maxLen; omega, _, Blk.new wr 5 _, u8s_size sec_noughts.len, List.take_of_length_le (by rw [List.size_toArray.symm, u8s_size sec_noughts.len]; exact Nat.le_refl _)⟩)
        have hcall := Lib.hid (dwrite_all (hB'.out.fresh ((Turned.refl (fun _ => False) wr).alloc (.cells (u8s noughts).toArray 5))) (j : Int) wr.heap.size 512 512 noughts hr.out sec_noughts.byte)
        by_cases hc : B.wCode (j : Int) 512 = 0
        · have hc0 : (B.wCode (j : Int) 512 != 0) = false := by rw [hc]; rfl
          have hst := Lib.hid (hf'.out.trans (fmtL_step (by omega) hc))
          clear hc
          go_wp2_with fail
          refine hcall.out.mono ?_
          rintro e w3 ⟨rfl, hD3, ht3⟩
          have hR : FmtRel d s o A w (.int .i64 ((j + 1 : Nat) : Int)) w3 := ⟨j + 1, _, by omega, rfl, hD3, by rw [wNext_n]; exact hBn'.out, by rw [hst.out]; rfl, (ht.alloc (.cells (u8s noughts).toArray 5)).trans ht3 (fun _ e => e) (fun _ e => .inl e)⟩
          have hR' := Lib.hid hR
          clear hR hD3 ht3
          go_wp2_with fail
          go_roundw
          case rel =>
            have hz : Value.int .i64 ((j : Int) + 1) = .int .i64 ((j + 1 : Nat) : Int) := by go_num
            first
            | (rw [hz]; exact hR'.out)
            | ((repeat apply Exists.intro); exact ⟨by rw [hz]; exact hR'.out, rfl⟩)
          case measure => simp [intOf]; omega
        · have hc0 : (B.wCode (j : Int) 512 != 0) = true := by rw [bne_iff_ne]; exact hc
          have hst := Lib.hid (hf'.out.trans (fmtL_stop (by omega) hc))
          have hc' := Lib.hid hc
          clear hc
          go_wp2_with fail
          refine hcall.out.mono ?_
          rintro e w3 ⟨rfl, hD3, ht3⟩
          go_wp2_with fail
          go_ret
          have hfe : fmt A = (B.wCode (j : Int) 512, B.wNext (j : Int) 512 noughts) := by rw [hfm'.out, hst.out, if_neg hc'.out]
          rw [hfe]
          exact ⟨rfl, hD3, (ht.alloc (.cells (u8s noughts).toArray 5)).trans ht3 (fun _ e => e) (fun _ e => .inl e)⟩
      · have hjn : A.n.toNat - j = 0 := by omega
        have hge2 : A.n ≤ (j : Int) := by omega
        have hst := Lib.hid (show fmtL A.n.toNat 0 A = (0, B) by rw [hf'.out, hjn]; rfl)
        clear hjn
        by_cases hc : B.sCode = 0
        · have hc0 : (B.sCode != 0) = false := by rw [hc]; rfl
          have hc' := Lib.hid hc
          clear hc
          go_wp2_with fail
          refine (dsync_all hB'.out).mono ?_
          rintro e w3 ⟨rfl, hD3, ht3⟩
          go_wp2_with fail
          refine (mwrite_all hD3 mOne ⟨⟨by decide, by decide⟩, ⟨by decide, by decide⟩, ⟨by decide, by decide⟩, ⟨by decide, by decide⟩⟩).mono ?_
          rintro e w4 ⟨rfl, hD4, ht4⟩
          go_wp2_with fail
          go_ret
          have hfe : fmt A = mw B.sNext mOne := by rw [hfm'.out, hst.out, if_pos rfl, if_pos hc'.out]
          rw [hfe]
          exact ⟨rfl, hD4, (ht.trans ht3 (fun _ e => e) (fun _ e => .inl e)).trans ht4 (fun _ e => e) (fun _ e => .inl e)⟩
        · have hc0 : (B.sCode != 0) = true := by rw [bne_iff_ne]; exact hc
          have hc' := Lib.hid hc
          clear hc
          go_wp2_with fail
          refine (dsync_all hB'.out).mono ?_
          rintro e w3 ⟨rfl, hD3, ht3⟩
          go_wp2_with fail
          go_ret
          have hfe : fmt A = (B.sCode, B.sNext) := by rw [hfm'.out, hst.out, if_pos rfl, if_neg hc'.out]
          rw [hfe]
          exact ⟨rfl, hD3, ht.trans ht3 (fun _ e => e) (fun _ e => .inl e)⟩
end Go.Proofs.Ytobjoafhhchjgaa
