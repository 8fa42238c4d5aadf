/-
  Both disks, each operation in one contract: what is answered and what comes of it, as functions of what the disk is.
-/
import Derived.Test.YtmblonmpiomjgaaGreatRefE
import Derived.Test.YtmblonmpiomjgaaGreatKitF
namespace Go.Proofs.YtmblonmpiomjgaaGreat
open Go.RowKit Go.Maps

def DA.wCode (A : DA) (k : Int) (n : Nat) : Int := if A.down then 8 else if 0 ≤ k ∧ k < A.n then (if n = 512 then codeOf (tickD A.armed) else 2) else 6
def DA.wNext (A : DA) (k : Int) (n : Nat) (zs : List Int) : DA := if A.down then A else if 0 ≤ k ∧ k < A.n then (if n = 512 then A.write k zs else A) else A
def DA.rCode (A : DA) (k : Int) : Int := if A.down then 8 else if 0 ≤ k ∧ k < A.n then 0 else 6
def DA.rBytes (A : DA) (k : Int) : List Int := if A.down then [] else if 0 ≤ k ∧ k < A.n then A.lat k else []
def DA.sCode (A : DA) : Int := if A.down then 8 else codeOf (tickD A.armed)
def DA.sNext (A : DA) : DA := if A.down then A else A.sync
def DA.arm (A : DA) (n : Int) : DA := if A.down then A else { A with armed := nonneg n }

section
variable {w : World} {d s o : Nat} {A : DA}
theorem dsk_cells (h : IsDisk w d s o A) : w.cell? ⟨d, 0, none⟩ = some (.int .i64 A.n) ∧ w.cell? ⟨d, 1, none⟩ = some (.map (some s)) ∧ w.cell? ⟨d, 2, none⟩ = some (.map (some o)) ∧ w.cell? ⟨d, 3, none⟩ = some (.int .i64 A.armed) ∧ w.cell? ⟨d, 4, none⟩ = some (.bool A.down) := cells_of_blk h.blk
theorem dwrite_all (h : IsDisk w d s o A) (k : Int) (g n cap : Nat) (zs : List Int) (hr : RowB w 5 g n cap zs) (hz : ∀ z ∈ zs, isByte z) :
    Calls Tryz.prog 17 #[.pointer (some ⟨d, 0, none⟩), .int .i64 k, .slice (some ⟨g, 0, none⟩) n cap] w (StPost (A.wCode k n) d s o (A.wNext k n zs) w) := by
  obtain ⟨c0, _, _, _, c4⟩ := dsk_cells h
  unfold DA.wCode DA.wNext
  by_cases hd : A.down = true
  · rw [hd] at c4
    rw [if_pos hd, if_pos hd]
    refine (write_err _ k 8 _ (may_down d A.n k _ c0 h.n1 c4) rfl _).mono ?_
    rintro e w' ⟨rfl, rfl⟩
    exact ⟨rfl, h, Turned.refl _ _⟩
  · rw [if_neg hd, if_neg hd]
    have hd' : A.down = false := by simpa using hd
    rw [hd'] at c4
    by_cases hk : 0 ≤ k ∧ k < A.n
    · rw [if_pos hk, if_pos hk]
      by_cases hn : n = 512
      · subst hn
        rw [if_pos rfl, if_pos rfl]
        exact write_ok d s o A k g cap zs w h hd' hk.1 hk.2 hr hz
      · rw [if_neg hn, if_neg hn]
        refine (write_arg _ k _ (may_ok d A.n k _ c0 h.n1 c4 hk.1 hk.2) _ n cap (by rw [bne_iff_ne]; omega)).mono ?_
        rintro e w' ⟨rfl, rfl⟩
        exact ⟨rfl, h, Turned.refl _ _⟩
    · rw [if_neg hk, if_neg hk]
      refine (write_err _ k 6 _ (may_none d A.n k _ c0 h.n1 c4 (by omega)) rfl _).mono ?_
      rintro e w' ⟨rfl, rfl⟩
      exact ⟨rfl, h, Turned.refl _ _⟩
/-- A read's answer, and new memory where there is any. -/
def RdPost (A : DA) (k : Int) (w : World) (e : Ending) (w' : World) : Prop :=
  ∃ v n c, e = .returned (.tuple #[.slice v n c, .int .i64 (A.rCode k)]) ∧ BytS w' v n c (A.rBytes k) ∧ Turned (fun _ => False) w w' ∧ (∀ b off, v = some ⟨b, off, none⟩ → w.heap.size ≤ b) ∧ (A.rCode k = 0 → ∃ g, v = some ⟨g, 0, none⟩ ∧ n = 512 ∧ RowB w' 5 g 512 c (A.lat k))
theorem BytS.none_ (w : World) : BytS w none 0 0 [] := ⟨BytR.none_ w, fun _ => ⟨rfl, rfl⟩⟩
theorem rd_of_ok {k : Int} {e : Ending} {w' : World} (hd : A.down = false) (hk : 0 ≤ k ∧ k < A.n) (h : ReadPost (A.lat k) w e w') : RdPost A k w e w' := by
  obtain ⟨g, cap, rfl, hr, hg, ht⟩ := h
  have e1 : A.rCode k = 0 := by unfold DA.rCode; rw [hd, if_pos hk]; rfl
  have e2 : A.rBytes k = A.lat k := by unfold DA.rBytes; rw [hd, if_pos hk]; rfl
  refine ⟨_, 512, cap, by rw [e1], by rw [e2]; exact hr.bytS cap, ht, fun b off e => ?_, fun _ => ⟨g, rfl, rfl, hr⟩⟩
  injection e with e
  injection e with e
  omega
theorem rd_of_err {k c : Int} {e : Ending} {w' : World} (hc : A.rCode k = c) (hc0 : c ≠ 0) (hb : A.rBytes k = []) (h : RetSame (.tuple #[.slice none 0 0, .int .i64 c]) w e w') : RdPost A k w e w' := by
  obtain ⟨rfl, rfl⟩ := h
  refine ⟨none, 0, 0, by rw [hc], by rw [hb]; exact BytS.none_ _, Turned.refl _ _, (fun b off e => by cases e), fun e => absurd (hc ▸ e) hc0⟩
theorem dread_all (h : IsDisk w d s o A) (k : Int) : Calls Tryz.prog 13 #[.pointer (some ⟨d, 0, none⟩), .int .i64 k] w (RdPost A k w) := by
  obtain ⟨c0, _, _, _, c4⟩ := dsk_cells h
  by_cases hd : A.down = true
  · rw [hd] at c4
    exact (read_err _ k 8 _ (may_down d A.n k _ c0 h.n1 c4) rfl).mono fun e w' h => rd_of_err (by unfold DA.rCode; rw [if_pos hd]) (by omega) (by unfold DA.rBytes; rw [if_pos hd]) h
  · have hd' : A.down = false := by simpa using hd
    rw [hd'] at c4
    by_cases hk : 0 ≤ k ∧ k < A.n
    · exact (read_ok d s o A k w h hd' hk.1 hk.2).mono fun e w' h => rd_of_ok hd' hk h
    · exact (read_err _ k 6 _ (may_none d A.n k _ c0 h.n1 c4 (by omega)) rfl).mono fun e w' h => rd_of_err (by unfold DA.rCode; rw [if_neg hd, if_neg hk]) (by omega) (by unfold DA.rBytes; rw [if_neg hd, if_neg hk]) h
theorem dsync_all (h : IsDisk w d s o A) : Calls Tryz.prog 19 #[.pointer (some ⟨d, 0, none⟩)] w (StPost A.sCode d s o A.sNext w) := by
  obtain ⟨c0, _, _, _, c4⟩ := dsk_cells h
  unfold DA.sCode DA.sNext
  by_cases hd : A.down = true
  · rw [hd] at c4
    rw [if_pos hd, if_pos hd]
    refine (sync_err _ 8 _ (may_down d A.n 0 _ c0 h.n1 c4) rfl).mono ?_
    rintro e w' ⟨rfl, rfl⟩
    exact ⟨rfl, h, Turned.refl _ _⟩
  · have hd' : A.down = false := by simpa using hd
    rw [if_neg hd, if_neg hd]
    cases ht : tickD A.armed with
    | true => exact sync_crash d s o A _ h hd' ht
    | false => exact sync_ok d s o A _ h hd' ht
theorem darm_all (h : IsDisk w d s o A) (n : Int) (hn : n ≤ 9223372036854775807) : Calls Tryz.prog 27 #[.pointer (some ⟨d, 0, none⟩), .int .i64 n] w (WakePost d s o (A.arm n) w) := by
  obtain ⟨c0, _, _, _, c4⟩ := dsk_cells h
  unfold DA.arm
  by_cases hd : A.down = true
  · rw [hd] at c4
    rw [if_pos hd]
    refine (arm_down d n _ c4).mono ?_
    rintro e w' ⟨rfl, rfl⟩
    exact ⟨rfl, h, Turned.refl _ _⟩
  · have hd' : A.down = false := by simpa using hd
    rw [if_neg hd]
    have hB := h.blk
    rw [hd'] at hB
    refine (arm_up d s o A.n A.armed n w hB).mono ?_
    rintro e w' ⟨rfl, hb, ht⟩
    obtain ⟨vs, vo, m1, m2, r⟩ := h.maps
    have hnn : 0 ≤ nonneg n ∧ nonneg n ≤ 9223372036854775807 := by unfold nonneg; split <;> omega
    exact ⟨rfl, ⟨by rw [← hd'] at hb; exact hb, h.ne, h.n1, h.n2, hnn.1, hnn.2, vs, vo, m1.turned ht (fun e => m1.ne_blk h.blk e.symm), m2.turned ht (fun e => m2.ne_blk h.blk e.symm), r⟩, ht.mono (fun i hi => .inl (.inl hi))⟩
end

section
variable {w : World} {base r m : Nat} {lv : Value} {A : DA} {X : Nat → RS}
theorem IsRef.apart {W : Nat → Prop} {w' : World} (h : IsRef w base r lv A m X) (ht : Turned W w w') (hr : ¬ W r) (hl : ∀ k, lv.ownBlock = some k → ¬ W k) (hb : ∀ k, BytesOf m X k → ¬ W k) : IsRef w' base r lv A m X := by
  have hs : ∀ v zs, SecAt w v zs → (∀ k, v.ownBlock = some k → ¬ W k) → SecAt w' v zs := fun v zs ⟨h0, g, cap, e, hr⟩ hv => ⟨h0, g, cap, e, hr.turned ht (hv g (by rw [e]; rfl))⟩
  have hrow : RowS w' base lv m X := by
    obtain ⟨xs, ⟨h1, h2⟩, hx⟩ := h.row.own
    refine ⟨xs, ⟨h1, h2.imp id ?_⟩, hx⟩
    rintro ⟨g, cap, cur, hv, hb, hh, r⟩
    exact ⟨g, cap, cur, hv, hb, (ht.block g (Blk.lt (t := 96) (cs := cur) hh) (hl g (by rw [hv]; rfl))).trans hh, r⟩
  exact { h with
    blk := h.blk.turned ht hr
    row := hrow
    byt := fun i hi => ⟨hs _ _ (h.byt i hi).1 (fun k hk => hb k ⟨i, hi, .inl hk⟩), hs _ _ (h.byt i hi).2 (fun k hk => hb k ⟨i, hi, .inr hk⟩)⟩ }
theorem IsRef.r_lt (h : IsRef w base r lv A m X) : r < w.heap.size := h.blk.lt
theorem IsRef.lv_lt (h : IsRef w base r lv A m X) {k : Nat} (hk : lv.ownBlock = some k) : k < w.heap.size := by
  rcases h.row.openG with ⟨rfl, _⟩ | ⟨g, cap, rfl, hG⟩
  · cases hk
  · obtain ⟨cs, hb⟩ := hG.blk
    have : g = k := by simpa [Value.ownBlock] using hk
    rw [← this]; exact hb.lt
theorem IsRef.byt_lt (h : IsRef w base r lv A m X) {k : Nat} (hk : BytesOf m X k) : k < w.heap.size := by
  obtain ⟨i, hi, hk⟩ := hk
  have key : ∀ v zs, SecAt w v zs → v.ownBlock = some k → k < w.heap.size := fun v zs ⟨_, g, cap, e, hr⟩ hv => by
    rw [e] at hv
    have : g = k := by simpa [Value.ownBlock] using hv
    rw [← this]; exact hr.lt
  rcases hk with hk | hk
  · exact key _ _ (h.byt i hi).1 hk
  · exact key _ _ (h.byt i hi).2 hk
theorem RowB.refTurned {w' : World} {g n cap r : Nat} {lv : Value} {zs : List Int} (h : RowB w 5 g n cap zs) (ht : Turned (RefV base w r lv) w w') : RowB w' 5 g n cap zs := by
  refine h.turned ht (fun e => ?_)
  obtain ⟨cs, hb⟩ := h.opened
  exact e.2.ne hb (by decide) (by decide)
theorem RowB.dskTurned {w' : World} {g n cap d s o : Nat} {A : DA} {zs : List Int} (h : RowB w 5 g n cap zs) (hd : IsDisk w d s o A) (ht : Turned (dskW d s o) w w') : RowB w' 5 g n cap zs := by
  refine h.turned ht (fun e => ?_)
  obtain ⟨cs, hb⟩ := h.opened
  obtain ⟨vs, vo, m1, m2, _⟩ := hd.maps
  rcases e with rfl | rfl | rfl
  · exact absurd (hb.inj hd.blk).2 (by decide)
  · exact m1.ne_blk hb rfl
  · exact m2.ne_blk hb rfl
theorem Blk.dskTurned {w w' : World} {g t d s o : Nat} {cs : Array Value} {A : DA} (h : Blk w g t cs) (hd : IsDisk w d s o A) (ht : Turned (dskW d s o) w w') (hne : t ≠ 48) : Blk w' g t cs := by
  refine h.turned ht (fun e => ?_)
  obtain ⟨vs, vo, m1, m2, _⟩ := hd.maps
  rcases e with rfl | rfl | rfl
  · exact hne (h.inj hd.blk).2
  · exact m1.ne_blk h rfl
  · exact m2.ne_blk h rfl
theorem IsDisk.refVTurned {w' : World} {d s o r : Nat} {lv : Value} {B : DA} (h : IsDisk w d s o B) (ht : Turned (RefV base w r lv) w w') : IsDisk w' d s o B := h.refTurned (ht.mono (fun _ e => .inl e.2))
theorem rkeep {v : Value} {e : Ending} {w' : World} (h : IsRef w base r lv A m X) (hp : RetSame v w e w') : RPost v base r lv m X A w e w' := by
  obtain ⟨rfl, rfl⟩ := hp
  exact ⟨rfl, ⟨lv, m, X, h, Near.same _ _ _ _⟩, Turned.refl _ _⟩
theorem rwrite_all (h : IsRef w base r lv A m X) (k : Int) (g n cap : Nat) (zs : List Int) (hr : RowB w 5 g n cap zs) (hz : ∀ z ∈ zs, isByte z) :
    Calls Tryz.prog 23 #[.pointer (some ⟨r, 0, none⟩), .int .i64 k, .slice (some ⟨g, 0, none⟩) n cap] w (RPost (.int .i64 (A.wCode k n)) base r lv m X (A.wNext k n zs) w) := by
  unfold DA.wCode DA.wNext
  by_cases hd : A.down = true
  · rw [if_pos hd, if_pos hd]
    exact (rwrite_down h k _ n cap hd).mono fun e w' hp => rkeep h hp
  · rw [if_neg hd, if_neg hd]
    have hd' : A.down = false := by simpa using hd
    by_cases hk : 0 ≤ k ∧ k < A.n
    · rw [if_pos hk, if_pos hk]
      by_cases hn : n = 512
      · subst hn
        rw [if_pos rfl, if_pos rfl]
        exact rwrite_ok h k g cap zs hd' hk.1 hk.2 hr ⟨hr.len, hz⟩
      · rw [if_neg hn, if_neg hn]
        exact (rwrite_arg h k _ n cap hd' hk.1 hk.2 (by rw [bne_iff_ne]; omega)).mono fun e w' hp => rkeep h hp
    · rw [if_neg hk, if_neg hk]
      exact (rwrite_none h k _ n cap hd' (by omega)).mono fun e w' hp => rkeep h hp
theorem rread_all (h : IsRef w base r lv A m X) (k : Int) : Calls Tryz.prog 29 #[.pointer (some ⟨r, 0, none⟩), .int .i64 k] w (RdPost A k w) := by
  by_cases hd : A.down = true
  · exact (rread_down h k hd).mono fun e w' h => rd_of_err (by unfold DA.rCode; rw [if_pos hd]) (by omega) (by unfold DA.rBytes; rw [if_pos hd]) h
  · have hd' : A.down = false := by simpa using hd
    by_cases hk : 0 ≤ k ∧ k < A.n
    · exact (rread_ok h k hd' hk.1 hk.2).mono fun e w' h => rd_of_ok hd' hk h
    · exact (rread_none h k hd' (by omega)).mono fun e w' h => rd_of_err (by unfold DA.rCode; rw [if_neg hd, if_neg hk]) (by omega) (by unfold DA.rBytes; rw [if_neg hd, if_neg hk]) h
theorem rsync_all (h : IsRef w base r lv A m X) : Calls Tryz.prog 26 #[.pointer (some ⟨r, 0, none⟩)] w (RPost (.int .i64 A.sCode) base r lv m X A.sNext w) := by
  unfold DA.sCode DA.sNext
  by_cases hd : A.down = true
  · rw [if_pos hd, if_pos hd]
    exact (rsync_down h hd).mono fun e w' hp => rkeep h hp
  · have hd' : A.down = false := by simpa using hd
    rw [if_neg hd, if_neg hd]
    cases ht : tickD A.armed with
    | true => exact rsync_crash h hd' ht
    | false => exact rsync_ok h hd' ht
theorem rarm_all (h : IsRef w base r lv A m X) (n : Int) (hn : n ≤ 9223372036854775807) : Calls Tryz.prog 28 #[.pointer (some ⟨r, 0, none⟩), .int .i64 n] w (RPost (.tuple #[]) base r lv m X (A.arm n) w) := by
  unfold DA.arm
  by_cases hd : A.down = true
  · rw [if_pos hd]
    exact rarm_down h hd n
  · have hd' : A.down = false := by simpa using hd
    rw [if_neg hd]
    exact rarm_up h hd' n hn
end
end Go.Proofs.YtmblonmpiomjgaaGreat
