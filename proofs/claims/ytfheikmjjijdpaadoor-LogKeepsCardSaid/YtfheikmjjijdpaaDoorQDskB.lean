/-
  The program's disk: the contracts of latest, Read, Write, Sync, Wake over what a disk is ('IsDisk').
-/
import Derived.Test.YtfheikmjjijdpaaDoorQArr
namespace Go.Proofs.YtfheikmjjijdpaaDoor
open Go.RowKit Go.Maps

theorem secT : SecT Tryd.prog 111 5 := by
  have h : (Tryd.prog.info? 111).map (fun i => (i.zero, i.size)) = some (some (secV noughts), 512) := by kernel_rfl
  exact ⟨Tryd.underlying111, (zero_of_info h).2, (zero_of_info h).1⟩
theorem mixed : Tryd.prog.follows .mixedOrders = true := by kernel_rfl
theorem u8info : (Tryd.prog.info? 5).map (fun i => (i.zero, i.size, i.bytes)) = some (some (.int .u8 0), 1, 1) := by kernel_rfl

theorem u8cells : Tryd.prog.cellsOf 5 = 1 := by kernel_rfl
theorem bytT : BytT Tryd.prog 33 5 := ⟨Tryd.underlying33, u8info⟩
def RetNew (v : Value) (w : World) (e : Ending) (w' : World) : Prop := e = .returned v ∧ Turned (fun _ => False) w w'

theorem cells_of_blk {w : World} {d s o : Nat} {n a : Int} {dn : Bool} (h : Blk w d 79 (dskCells n s o a dn)) :
    w.cell? ⟨d, 0, none⟩ = some (.int .i64 n) ∧ w.cell? ⟨d, 1, none⟩ = some (.map (some s)) ∧ w.cell? ⟨d, 2, none⟩ = some (.map (some o)) ∧ w.cell? ⟨d, 3, none⟩ = some (.int .i64 a) ∧ w.cell? ⟨d, 4, none⟩ = some (.bool dn) :=
  ⟨h.cell 0, h.cell 1, h.cell 2, h.cell 3, h.cell 4⟩

theorem blk_grown {w w' : World} {g t : Nat} {cs : Array Value} {r : Nat} (h : Blk w g t cs) (hg : w.grownBy w' (some r)) (hne : g ≠ r) : Blk w' g t cs := h.grown hg (fun e => hne (by injection e))

set_option maxHeartbeats 400000 in
theorem latest_any (d s o : Nat) (A : DA) (k : Int) (w : World) (h : IsDisk w d s o A) (hk : (Lit.int .i64 k).wf = true) :
    Calls Tryd.prog 53 #[.pointer (some ⟨d, 0, none⟩), .int .i64 k] w (RetNew (secV (A.lat k)) w) := by
  obtain ⟨vs, vo, m1, m2, b1, b2, e1, e2, e3, s1, s2⟩ := h.maps
  obtain ⟨c0, c1, c2, c3, c4⟩ := cells_of_blk h.blk
  have hd := h.blk.lt
  have hB := h.blk
  have ho := m2.lt
  have hs := m1.lt
  have hlat := Lib.hid (e3 k)
  have hsaf := Lib.hid (e1 k)
  have hl := (s2 k).len
  clear e1 e2 e3 b1 b2 h
  cases hv : vo k with
  | some zs =>
    have hz : A.lat k = zs := by rw [hlat.out, hv]; rfl
    have hzl : zs.length = 512 := by rw [← hz]; exact hl
    have hzs := Lib.hid hz
    have hvv := Lib.hid hv
    clear hz hv
    go_enter Tryd.func53, Tryd.ntmps53
    go_wp2_with (first
      | (refine wpList_sec_alloc secT rfl rfl ?_)
      | (refine wpList_sec_look_ok secT rfl _ _ rfl Tryd.underlying3 Tryd.underlying77 rfl (m2.alloc _) k rfl hk (some zs) hvv.out ?_)
      | (refine wpList_sec_storeAt secT rfl (.tmp 5) (.tmp 14) rfl (w.heap.size + 1) (by first | rfl | simp [Act.eval, Act.put]) 111 (u8s noughts).toArray (Blk.new_at _ _ _ (by simp)) (u8s_size sec_noughts.len) zs rfl hzl ?_; intro w1 hb1 hg1 hs1)
      | (refine wpList_sec_load secT rfl (.tmp 5) rfl (w.heap.size + 1) rfl 111 zs hb1 hzl ?_)
      | (refine wpList_sec_storeAt secT rfl (.tmp 4) (.tmp 17) rfl w.heap.size rfl 111 (u8s noughts).toArray (blk_grown ((Blk.new w _ _).alloc _) hg1 (by omega)) (u8s_size sec_noughts.len) zs rfl hzl ?_; intro w2 hb2 hg2 hs2))
    refine bodyPost_ret (v := secV zs) (results_cell_row rfl _ _ w.heap.size 111 _ (0, 0) _ rfl hb2 Tryd.underlying111 rfl (by rw [secT.size, u8s_size hzl])) rfl ⟨by rw [hzs.out], ?_⟩
    exact ((((Turned.refl (fun _ => False) w).alloc _).alloc _).grown hg1 (fun k e => by injection e with e; right; omega)).grown hg2 (fun k e => by injection e with e; right; omega)
  | none =>
    have hz : A.lat k = (vs k).getD noughts := by rw [hlat.out, hv, hsaf.out]; rfl
    have hzl : ((vs k).getD noughts).length = 512 := by rw [← hz]; exact hl
    generalize hq : (vs k).getD noughts = zs at *
    have hqq := Lib.hid hq
    have hzs := Lib.hid hz
    have hvv := Lib.hid hv
    clear hz hv hq
    go_enter Tryd.func53, Tryd.ntmps53
    go_wp2_with (first
      | (refine wpList_sec_alloc secT rfl rfl ?_)
      | (refine wpList_sec_look_ok secT rfl _ _ rfl Tryd.underlying3 Tryd.underlying77 rfl (m2.alloc _) k rfl hk none hvv.out ?_)
      | (refine wpList_sec_storeAt secT rfl (.tmp 5) (.tmp 14) rfl (w.heap.size + 1) (by first | rfl | simp [Act.eval, Act.put]) 111 (u8s noughts).toArray (Blk.new_at _ _ _ (by simp)) (u8s_size sec_noughts.len) noughts rfl sec_noughts.len ?_; intro w1 hb1 hg1 hs1; have hc1 := (cells_of_blk (blk_grown ((hB.alloc _).alloc _) hg1 (by omega))).2.1)
      | (refine wpList_sec_look secT rfl (.tmp 21) (.tmp 22) rfl Tryd.underlying3 Tryd.underlying77 rfl (((m1.alloc _).alloc _).grown hg1 (fun e => by injection e with e; omega)) k rfl hk zs hqq.out ?_)
      | (refine wpList_sec_storeAt secT rfl (.tmp 4) (.tmp 23) rfl w.heap.size rfl 111 (u8s noughts).toArray (blk_grown ((Blk.new w _ _).alloc _) hg1 (by omega)) (u8s_size sec_noughts.len) zs rfl hzl ?_; intro w2 hb2 hg2 hs2))
    refine bodyPost_ret (v := secV zs) (results_cell_row rfl _ _ w.heap.size 111 _ (0, 0) _ rfl hb2 Tryd.underlying111 rfl (by rw [secT.size, u8s_size hzl])) rfl ⟨by rw [hzs.out], ?_⟩
    exact ((((Turned.refl (fun _ => False) w).alloc _).alloc _).grown hg1 (fun k e => by injection e with e; right; omega)).grown hg2 (fun k e => by injection e with e; right; omega)

theorem wf_idx {k n : Int} (h0 : 0 ≤ k) (h1 : k < n) (h2 : n ≤ 8192) : (Lit.int .i64 k).wf = true := wf_of k (by omega) (by omega)
def ReadPost (zs : List Int) (w : World) (e : Ending) (w' : World) : Prop := ∃ g cap, e = .returned (.tuple #[.slice (some ⟨g, 0, none⟩) 512 cap, .int .i64 0]) ∧ RowB w' 5 g 512 cap zs ∧ w.heap.size ≤ g ∧ Turned (fun _ => False) w w'

set_option maxHeartbeats 400000 in
theorem read_ok (d s o : Nat) (A : DA) (k : Int) (w : World) (h : IsDisk w d s o A) (hdn : A.down = false) (h0 : 0 ≤ k) (h1 : k < A.n) :
    Calls Tryd.prog 28 #[.pointer (some ⟨d, 0, none⟩), .int .i64 k] w (ReadPost (A.lat k) w) := by
  obtain ⟨c0, c1, c2, c3, c4⟩ := cells_of_blk h.blk
  have hn1 := h.n1
  have hwf := wf_idx h0 h1 h.n2
  rw [hdn] at c4
  have hl : Sec (A.lat k) := let ⟨_, _, _, _, _, _, _, _, _, _, s2⟩ := h.maps; s2 k
  have hll := hl.len
  have hdd := Lib.hid hdn
  clear hdn
  go_enter Tryd.func28, Tryd.ntmps28
  go_wp2_with (first
    | (go_at_call 52; refine (may_ok d A.n k _ c0 hn1 c4 h0 h1).mono ?_; rintro e w' ⟨rfl, rfl⟩)
    | (go_at_call 53; refine (latest_any d s o A k _ h hwf).mono ?_; rintro e w1 ⟨rfl, ht1⟩)
    | (refine wpList_sec_alloc secT rfl rfl ?_)
    | (refine wpList_sec_storeAt secT rfl (.tmp 7) (.tmp 16) rfl w1.heap.size rfl 111 (u8s noughts).toArray (Blk.new_at _ _ _ rfl) (u8s_size sec_noughts.len) (A.lat k) rfl hll ?_; intro w2 hb2 hg2 hs2)
    | (refine wpList_bytes_none bytT rfl rfl ?_)
    | (refine wpList_slice_arr secT u8cells rfl (.tmp 7) rfl w1.heap.size rfl ?_)
    | (refine wpList_bytes_append bytT rfl (.tmp 17) (.tmp 18) rfl (.slice (some ⟨w2.heap.size, 0, none⟩) 0 0) w1.heap.size 0 [] (A.lat k) rfl (own_none w2 (by simp at hs2; omega) _) ⟨w1.heap.size, 0, none⟩ 512 512 rfl hll (news_of_sec (hb2.alloc _)) (by omega) (by omega) (by simp at hs2 ⊢; omega) ?_; intro g cap w3 hr hg3 hat hlt))
  go_ret2
  have hs2' : w2.heap.size = w1.heap.size + 1 := by simpa using hs2
  refine ⟨g, cap, rfl, hr, ?_, ?_⟩
  · have := ht1.size
    rcases hat with e | e
    · simp [Value.ownBlock] at e; omega
    · simp at e; omega
  · refine (((ht1.alloc _).grown hg2 ?_).alloc _).grown hg3 ?_
    · intro k e; injection e with e; right; have := ht1.size; omega
    · intro k e; simp [Value.ownBlock] at e; right; have := ht1.size; omega

section
variable (p : Option Addr) (k c : Int) (w : World) (hmay : Calls Tryd.prog 52 #[.pointer p, .int .i64 k] w (RetSame (.int .i64 c) w)) (hc : (c != 0) = true)
include hmay hc
end
/-- What a write or sync does to the count. -/
def tickA (a : Int) : Int := if 0 < a then a - 1 else a
def tickD (a : Int) : Bool := decide (a = 1)
theorem crash_tick (d s o : Nat) (n a : Int) (w : World) (h : Blk w d 79 (dskCells n s o a false)) (ha : 0 ≤ a) (ha2 : a ≤ 9223372036854775807) :
    Calls Tryd.prog 65 #[.pointer (some ⟨d, 0, none⟩)] w (Post1 d s o n (tickA a) (tickD a) (.bool (tickD a)) w) := by
  by_cases h0 : a = 0
  · subst h0
    refine (crash_idle d s o n 0 false w h rfl).mono ?_
    rintro e w' ⟨rfl, rfl⟩
    exact ⟨rfl, h, Turned.refl _ _⟩
  · refine (crash_armed d s o n a false w h (by omega) ha2).mono ?_
    rintro e w' ⟨rfl, hb, ht⟩
    have e1 : tickA a = a - 1 := by unfold tickA; rw [if_pos (by omega)]
    have e2 : tickD a = (a - 1 == 0) := by
      unfold tickD
      rw [Bool.eq_iff_iff]
      simp
      omega
    rw [e1, e2]
    exact ⟨rfl, hb, ht⟩
def codeOf (b : Bool) : Int := if b then 8 else 0
def DA.write (A : DA) (k : Int) (zs : List Int) : DA := { A with lat := upd A.lat k zs, opn := upd A.opn k true, armed := tickA A.armed, down := tickD A.armed }
def StPost (c : Int) (d s o : Nat) (A : DA) (w : World) (e : Ending) (w' : World) : Prop := e = .returned (.int .i64 c) ∧ IsDisk w' d s o A ∧ Turned (dskW d s o) w w'

theorem tickA_le {a : Int} (h : 0 ≤ a) : 0 ≤ tickA a ∧ tickA a ≤ a := by
  unfold tickA
  split <;> omega
theorem IsDisk.written {w : World} {d s o : Nat} {A : DA} {k : Int} {zs : List Int} {vs vo : Int → Option (List Int)} (h : IsDisk w d s o A) {w' : World} (hB : Blk w' d 79 (dskCells A.n s o (tickA A.armed) (tickD A.armed)))
    (m1 : MapIs Tryd.prog 3 w' s vs) (m2 : MapIs Tryd.prog 3 w' o (upd vo k (some zs))) (h0 : 0 ≤ k) (h1 : k < A.n) (hz : Sec zs)
    (b1 : ∀ k, vs k ≠ none → 0 ≤ k ∧ k < A.n) (b2 : ∀ k, vo k ≠ none → 0 ≤ k ∧ k < A.n) (e1 : ∀ k, A.saf k = (vs k).getD noughts) (e2 : ∀ k, A.opn k = (vo k).isSome) (e3 : ∀ k, A.lat k = (vo k).getD (A.saf k)) (s1 : ∀ k, Sec (A.saf k)) (s2 : ∀ k, Sec (A.lat k)) :
    IsDisk w' d s o (A.write k zs) := by
  have ht := tickA_le h.a1
  refine ⟨hB, h.ne, h.n1, h.n2, ht.1, Int.le_trans ht.2 h.a2, vs, upd vo k (some zs), m1, m2, b1, ?_, e1, ?_, ?_, s1, ?_⟩
  · intro j hj
    by_cases e : j = k
    · subst e; exact ⟨h0, h1⟩
    · simp only [upd, if_neg e] at hj; exact b2 j hj
  · intro j
    by_cases e : j = k
    · simp [DA.write, upd, e]
    · simp only [DA.write, upd, if_neg e]; exact e2 j
  · intro j
    by_cases e : j = k
    · simp [DA.write, upd, e]
    · simp only [DA.write, upd, if_neg e]; exact e3 j
  · intro j
    by_cases e : j = k
    · simp only [DA.write, upd, if_pos e]; exact hz
    · simp only [DA.write, upd, if_neg e]; exact s2 j

set_option maxRecDepth 100000 in
set_option maxHeartbeats 400000 in
theorem write_ok (d s o : Nat) (A : DA) (k : Int) (g cap : Nat) (zs : List Int) (w : World) (h : IsDisk w d s o A) (hdn : A.down = false) (h0 : 0 ≤ k) (h1 : k < A.n) (hr : RowB w 5 g 512 cap zs) (hz : ∀ z ∈ zs, isByte z) :
    Calls Tryd.prog 63 #[.pointer (some ⟨d, 0, none⟩), .int .i64 k, .slice (some ⟨g, 0, none⟩) 512 cap] w (StPost (codeOf (tickD A.armed)) d s o (A.write k zs) w) := by
  obtain ⟨vs, vo, m1, m2, b1, b2, e1, e2, e3, s1, s2⟩ := h.maps
  obtain ⟨c0, c1, c2, c3, c4⟩ := cells_of_blk h.blk
  have hn1 := h.n1
  have hwf := wf_idx h0 h1 h.n2
  rw [hdn] at c4
  have hdd := Lib.hid hdn
  obtain ⟨cs, hcb, hcs, hct⟩ := hr.row
  have hzl : Sec zs := ⟨hr.len, hz⟩
  have hfin := Lib.hid (fun (w' : World) hB m1 m2 => IsDisk.written (w' := w') h hB m1 m2 h0 h1 hzl b1 b2 e1 e2 e3 s1 s2)
  have hB : Blk w d 79 (dskCells A.n s o A.armed false) := by have := h.blk; rw [hdn] at this; exact this
  have hne := h.ne
  have hdo := m2.ne_blk hB
  have hds := m1.ne_blk hB
  have hb2 := Lib.hid b2
  have hct' := Lib.hid hct
  have hA := Lib.hid (And.intro h.a1 h.a2)
  have hN := h.n2
  clear hdn e1 e2 e3 b1 b2 s1 s2 h hcs hct
  go_enter Tryd.func63, Tryd.ntmps63
  go_wp2_with (go_at_call 52; refine (may_ok d A.n k _ c0 hn1 c4 h0 h1).mono ?_; rintro e w' ⟨rfl, rfl⟩)
  refine wp_region_still_tail 8 mixed (by kernel_rfl) ?_
  simp only [List.take_succ_cons, List.take_zero, List.drop_succ_cons, List.drop_zero]
  change wpStill _ _ w.drew (fun a' => wpList _ _ _ _ a' w.drew) _ _
  iterate 6 still_step
  refine wpStill_value rfl (.pointer (some ⟨g, 0, none⟩)) (by simp [execOp, Act.eval, run_arrayAt (h := secT.und) (hn := Nat.le_refl 512), Result.andThen]) ?_
  refine wpStill_sec_load_of secT rfl (.tmp 23) rfl g rfl 5 cs zs hcb.drew hzl.len hct'.out ?_
  refine wpStill_nil ?_
  refine wpList_sec_store _ rfl (.tmp 20) (.tmp 21) (.tmp 24) 77 3 111 rfl Tryd.underlying3 Tryd.underlying77 o vo rfl m2.drew 8192 (by omega) (fun j hj => by have := hb2.out j hj; omega) k rfl hwf zs rfl hzl ?_
  intro w1 m2' hg1
  have hB1 := blk_grown hB.drew hg1 hdo
  have m1' := m1.drew.grown hg1 (fun e => hne (by injection e))
  have ht1 : Turned (dskW d s o) w w1 := (Turned.refl _ w).drew.grown hg1 (fun i e => by injection e with e; subst e; exact .inl (.inr (.inr rfl)))
  by_cases hb : tickD A.armed = true
  · go_wp2_with (go_at_call 65; refine (crash_tick d s o A.n A.armed _ hB1 hA.out.1 hA.out.2).mono ?_; rintro e w2 ⟨rfl, hB2, ht2⟩)
    go_ret
    exact ⟨by rw [hb]; rfl, hfin.out w2 hB2 (m1'.turned ht2 (fun e => hds e.symm)) (m2'.turned ht2 (fun e => hdo e.symm)), ht1.trans ht2 (fun i hi => hi) (fun i hi => .inl (.inl hi))⟩
  · have hb' : tickD A.armed = false := by simpa using hb
    clear hb
    go_wp2_with (go_at_call 65; refine (crash_tick d s o A.n A.armed _ hB1 hA.out.1 hA.out.2).mono ?_; rintro e w2 ⟨rfl, hB2, ht2⟩)
    go_ret
    exact ⟨by rw [hb']; rfl, hfin.out w2 hB2 (m1'.turned ht2 (fun e => hds e.symm)) (m2'.turned ht2 (fun e => hdo e.symm)), ht1.trans ht2 (fun i hi => hi) (fun i hi => .inl (.inl hi))⟩
end Go.Proofs.YtfheikmjjijdpaaDoor

