/-
  DiskNumbers' fates: each set of sectors, of three that are written.
-/
import Derived.Test.YtobjoafhhchjgaaNil
namespace Go.Proofs.Ytobjoafhhchjgaa
open Go.RowKit Go.Maps

structure Fst (A : DA) (I : Int) : Prop where
  n : A.n = 3
  armed : A.armed = 0
  down : A.down = false
  lat : ∀ k, 0 ≤ k → k < I → A.lat k = fullB k
theorem Fst.tick {A : DA} {I : Int} (h : Fst A I) : tickD A.armed = false := by rw [h.armed]; rfl
theorem Fst.step {A : DA} {I : Int} (h : Fst A I) : Fst (A.write I (fullB I)) (I + 1) := by
  refine ⟨h.n, by show tickA A.armed = 0; rw [h.armed]; rfl, h.tick, fun k h0 h1 => ?_⟩
  show upd A.lat I (fullB I) k = _
  unfold upd
  by_cases e : k = I
  · rw [if_pos e, e]
  · rw [if_neg e]; exact h.lat k h0 (by omega)
structure Thd (A : DA) (I : Int) : Prop where
  n : A.n = 3
  armed : A.armed = 0
  down : A.down = false
  saf : ∀ k, 0 ≤ k → k < 3 → A.saf k = fullB k
  opn : ∀ k, 0 ≤ k → k < 3 → A.opn k = decide (I < k)
  lat : ∀ k, 0 ≤ k → k < 3 → I < k → A.lat k = fullB (100 + k)
theorem Thd.tick {A : DA} {I : Int} (h : Thd A I) : tickD A.armed = false := by rw [h.armed]; rfl
theorem Fst.sync {A : DA} (h : Fst A 3) : Thd A.sync 2 := by
  unfold DA.sync
  rw [h.tick]
  exact ⟨h.n, by show tickA A.armed = 0; rw [h.armed]; rfl, rfl, fun k h0 h1 => h.lat k h0 h1, fun k h0 h1 => (decide_eq_false (by omega)).symm, fun k h0 h1 h2 => by omega⟩
theorem Thd.step {A : DA} {I : Int} (h : Thd A I) : Thd (A.write I (fullB (100 + I))) (I - 1) := by
  refine ⟨h.n, by show tickA A.armed = 0; rw [h.armed]; rfl, h.tick, h.saf, fun k h0 h1 => ?_, fun k h0 h1 h2 => ?_⟩
  · show upd A.opn I true k = _
    unfold upd
    by_cases e : k = I
    · rw [if_pos e, decide_eq_true (by omega)]
    · rw [if_neg e, h.opn k h0 h1]
      by_cases e2 : I < k
      · rw [decide_eq_true e2, decide_eq_true (by omega)]
      · rw [decide_eq_false e2, decide_eq_false (by omega)]
  · show upd A.lat I (fullB (100 + I)) k = _
    unfold upd
    by_cases e : k = I
    · rw [if_pos e, e]
    · rw [if_neg e]; exact h.lat k h0 h1 (by omega)
def L1Rel (d s o : Nat) (w : World) (v : Value) (wr : World) : Prop := ∃ (I : Int) (A : DA), 0 ≤ I ∧ I ≤ 3 ∧ v = .int .i64 I ∧ IsDisk wr d s o A ∧ Fst A I ∧ Turned (fun _ => False) w wr
def kbit (j : Nat) (I : Int) : Bool := bits BinOp.and IntKind.i64 ((j : Int) / 2 ^ I.toNat) 1 == 1
theorem fateinfo : (Try.prog.info? 39).map (fun i => (i.zero, i.size, i.bytes)) = some (some (.agg #[.int .i64 0]), 1, 8) := by kernel_rfl
theorem ownsRow_turned {W : Nat → Prop} {w w' : World} {base size n : Nat} {e : TypeId} {v : Value} {xs : List Value} (h : w.ownsRow base e size v n xs) (ht : Turned W w w') (hW : ∀ i, W i → i < base) : w'.ownsRow base e size v n xs := by
  obtain ⟨h1, h2⟩ := h
  refine ⟨h1, h2.imp id ?_⟩
  rintro ⟨g, cap, cur, hv, hb, hh, r⟩
  exact ⟨g, cap, cur, hv, hb, (ht.block g (Blk.lt (t := e) (cs := cur) hh) (fun e => by have := hW g e; omega)).trans hh, r⟩
theorem own_block_ge {w : World} {base size n : Nat} {e : TypeId} {v : Value} {xs : List Value} (h : w.ownsRow base e size v n xs) {k : Nat} (hk : v.ownBlock = some k) : base ≤ k := by
  obtain ⟨_, h2⟩ := h
  rcases h2 with ⟨rfl, _⟩ | ⟨g, cap, cur, rfl, hb, _⟩
  · cases hk
  · simp [Value.ownBlock] at hk; omega
theorem ints_of_own {w : World} {base d : Nat} {v : Value} {fs : List Int} (h : w.ownsRow base 39 1 v fs.length (fs.map (.int .i64))) (hwf : ∀ f ∈ fs, (Lit.int .i64 f).wf = true) (hm : fs.length ≤ 6) (hd : d < base) :
    ∃ F n c, v = .slice F n c ∧ IntsR w d F n fs := by
  obtain ⟨_, h2⟩ := h
  rcases h2 with ⟨rfl, h0⟩ | ⟨g, cap, cur, rfl, hb, hh, _, _, _, hc⟩
  · exact ⟨none, 0, 0, rfl, h0, by omega, hwf, fun h => by omega⟩
  · refine ⟨_, _, _, rfl, rfl, by omega, hwf, fun _ => ⟨g, 0, rfl, by omega, fun j hj => ?_⟩⟩
    have hcell := Blk.cell (w := w) (g := g) (t := 39) (cs := cur) hh (0 + j)
    rw [hcell, Nat.zero_add]
    rw [Nat.mul_one] at hc
    have h1 : (fs.map (Value.int .i64))[j]? = some (.int .i64 (fs.getD j 0)) := by
      rw [List.getElem?_map, List.getD_eq_getElem?_getD, List.getElem?_eq_getElem hj]
      rfl
    rw [← hc, List.getElem?_take, if_pos hj] at h1
    simpa using h1
def dB (d s o : Nat) : Nat := max d (max s o) + 1
theorem dB_lt {d s o k : Nat} (h : dskW d s o k) : k < dB d s o := by
  unfold dB
  rcases h with rfl | rfl | rfl <;> omega
theorem dB_le {w : World} {d s o : Nat} {A : DA} (h : IsDisk w d s o A) : dB d s o ≤ w.heap.size := by
  have h1 := h.lt (k := d) (.inl rfl)
  have h2 := h.lt (k := s) (.inr (.inl rfl))
  have h3 := h.lt (k := o) (.inr (.inr rfl))
  unfold dB
  omega
structure Wkd (A : DA) (j : Nat) : Prop where
  n : A.n = 3
  down : A.down = false
  lat : ∀ k, 0 ≤ k → k < 3 → A.lat k = fullB (if kbit j k then 100 + k else k)
theorem Thd.wake {A : DA} (h : Thd A (-1)) {j : Nat} {fs : List Int} (hf : ∀ k, 0 ≤ k → k < 3 → fs.contains k = (decide (-1 < k) && kbit j k)) : Wkd (A.wake fs) j := by
  refine ⟨h.n, rfl, fun k h0 h1 => ?_⟩
  show (if A.opn k && fs.contains k then A.lat k else A.saf k) = _
  rw [h.opn k h0 h1, hf k h0 h1, decide_eq_true (by omega), h.lat k h0 h1 (by omega), h.saf k h0 h1]
  cases kbit j k <;> rfl
def L4Rel (d s o : Nat) (A : DA) (w : World) (v : Value) (wr : World) : Prop := ∃ I : Int, 0 ≤ I ∧ I ≤ 3 ∧ v = .int .i64 I ∧ IsDisk wr d s o A ∧ Turned (fun _ => False) w wr
theorem more_fates {fs : List Int} {j : Nat} {I : Int} (hf : ∀ k, 0 ≤ k → k < 3 → fs.contains k = (decide (I < k) && kbit j k)) (hk : kbit j I = true) : ∀ k, 0 ≤ k → k < 3 → (fs ++ [I, I]).contains k = (decide (I - 1 < k) && kbit j k) := by
  intro k h0 h1
  have := hf k h0 h1
  rw [List.contains_eq_mem] at *
  by_cases e : k = I
  · subst e; simp [hk]; omega
  · by_cases e2 : I < k
    · have e3 : I - 1 < k := by omega
      simp only [e2, decide_true, Bool.true_and] at this
      simp [e, e3, this]
    · have e3 : ¬ I - 1 < k := by omega
      simp only [e2, decide_false, Bool.false_and, decide_eq_false_iff_not] at this
      simp [e, e3, this]
theorem same_fates {fs : List Int} {j : Nat} {I : Int} (hf : ∀ k, 0 ≤ k → k < 3 → fs.contains k = (decide (I < k) && kbit j k)) (hk : kbit j I = false) : ∀ k, 0 ≤ k → k < 3 → fs.contains k = (decide (I - 1 < k) && kbit j k) := by
  intro k h0 h1
  rw [hf k h0 h1]
  by_cases e : k = I
  · subst e; simp [hk]
  · by_cases e2 : I < k
    · have e3 : I - 1 < k := by omega
      simp [e2, e3]
    · have e3 : ¬ I - 1 < k := by omega
      simp [e2, e3]

def L3Rel (d s o : Nat) (w : World) (base : Nat) (kb : Int → Bool) (l v : Value) (wr : World) : Prop := ∃ (I : Int) (A : DA) (fs : List Int), -1 ≤ I ∧ I ≤ 2 ∧ v = .int .i64 I ∧ IsDisk wr d s o A ∧ Thd A I ∧
  wr.ownsRow base 39 1 l fs.length (fs.map (.int .i64)) ∧ (∀ k, 0 ≤ k → k < 3 → fs.contains k = (decide (I < k) && kb k)) ∧ (fs.length : Int) ≤ 2 * (2 - I) ∧ (∀ f ∈ fs, (Lit.int .i64 f).wf = true) ∧ Turned (fun _ => False) w wr
def L0Rel (w : World) (v : Value) (wr : World) : Prop := ∃ j : Nat, j ≤ 8 ∧ v = .int .i64 j ∧ Turned (fun _ => False) w wr

set_option maxRecDepth 100000 in
set_option maxHeartbeats 4000000 in
theorem fates_any (w : World) : Calls Try.prog 31 #[] w (OkNew w) := by
  go_enter Try.func31, Try.ntmps31
  go_wp2_with fail
  go_loopw [1] (fun v wr => L0Rel w v wr) (fun v _ => 8 - (intOf v).toNat)
  case atStart => exact ⟨0, by omega, rfl, Turned.refl _ _⟩
  case round =>
    obtain ⟨j, hj, rfl, hT⟩ := hrel
    by_cases hj8 : j < 8
    · have hji : (j : Int) < 8 := by omega
      obtain ⟨wo, hwo⟩ : ∃ wo : World, wo = wr := ⟨_, rfl⟩
      subst hwo
      go_wp2_with fail
      refine (new_yes 3 _ (by omega) (by omega)).mono ?_
      rintro e w1 ⟨d, s, o, rfl, hD1, ht1, hfr, _⟩
      have hT1 := hT.trans (W := fun _ => False) ht1 (fun _ h => h) (fun _ h => .inl h)
      have hfr' := Lib.hid (fun i (hi : dskW d s o i) => Nat.le_trans hT.size (hfr i hi))
      clear hfr ht1 hT
      go_wp2_with fail
      go_loopw [4] (fun v wr => L1Rel d s o w v wr) (fun v _ => 3 - (intOf v).toNat)
      case atStart => exact ⟨0, _, by omega, by omega, rfl, hD1, ⟨rfl, rfl, rfl, fun k h0 h1 => by omega⟩, hT1⟩
      case round =>
        obtain ⟨I, A, hI0, hI3, rfl, hD, hA, hT⟩ := hrel
        have hA' := Lib.hid hA
        clear hD1 hT1 hA
        by_cases hI : I < 3
        · go_wp2_with fail
          refine (full_any I _ (by omega) (by omega)).mono ?_
          rintro e w2 ⟨g, rfl, hr2, hg2, ht2⟩
          have hD2 := hD.fresh ht2
          have hT2 := hT.trans (W := fun _ => False) ht2 (fun _ h => h) (fun _ h => .inl h)
          clear hD hT ht2 hg2
          go_wp2_with fail
          refine (write_to d s o A I g 512 (fullB I) _ 0 _ hD2 hA'.out.down hI0 (by rw [hA'.out.n]; exact hI) hr2 (sec_full I) (by rw [hA'.out.tick]; rfl) rfl).mono ?_
          rintro e w3 ⟨rfl, hD3, ht3⟩
          have hT3 := hT2.trans (W := fun _ => False) ht3 (fun _ h => h) (fun i hi => .inr (hfr'.out i hi))
          have hR3 : L1Rel d s o w (.int .i64 (I + 1)) w3 := ⟨I + 1, _, by omega, by omega, rfl, hD3, hA'.out.step, hT3⟩
          have hR3' := Lib.hid hR3
          clear hR3 hD2 hD3 hT2 hT3 ht3 hr2
          go_wp2_with fail
          go_roundw
          case rel =>
            first
            | exact hR3'.out
            | ((repeat apply Exists.intro); exact ⟨hR3'.out, rfl⟩)
          case measure => simp [intOf]; omega
        · have hI' : I = 3 := by omega
          subst hI'
          clear hI hI0 hI3
          go_wp2_with fail
          refine (sync_to d s o A _ _ hD hA'.out.down hA'.out.tick rfl).mono ?_
          rintro e w2 ⟨rfl, hD2, ht2⟩
          have hT2 := hT.trans (W := fun _ => False) ht2 (fun _ h => h) (fun i hi => .inr (hfr'.out i hi))
          have hA2 := Lib.hid hA'.out.sync
          generalize A.sync = A2 at *
          clear hD hT hA'
          clear ht2
          go_wp2_with fail
          go_loopw [3, 5] (fun l v wr => L3Rel d s o w (dB d s o) (kbit j) l v wr) (fun _ v _ => (intOf v + 1).toNat)
          case atStart => exact ⟨2, A2, [], by omega, by omega, rfl, hD2, hA2.out, ⟨rfl, .inl ⟨rfl, rfl⟩⟩, fun k h0 h1 => by rw [decide_eq_false (by omega)]; rfl, by simp, by simp, hT2⟩
          case round =>
            obtain ⟨I, A, fs, hI0, hI3, rfl, hD, hA, hl, hc, hf, hwf, hT⟩ := hrel
            have hA' := Lib.hid hA
            clear hA
            have hz := Lib.hid (And.intro hl (And.intro hc (And.intro hf hwf)))
            clear hl hc hf hwf
            by_cases hI : 0 ≤ I
            · go_wp2_with fail
              refine (full_any (100 + I) _ (by omega) (by omega)).mono ?_
              rintro e w2 ⟨g, rfl, hr2, hg2, ht2⟩
              have hD2 := hD.fresh ht2
              have hT2 := hT.trans (W := fun _ => False) ht2 (fun _ h => h) (fun _ h => .inl h)
              clear hD hT hg2
              go_wp2_with fail
              refine (write_to d s o A I g 512 (fullB (100 + I)) _ 0 _ hD2 hA'.out.down hI (by rw [hA'.out.n]; omega) hr2 (sec_full (100 + I)) (by rw [hA'.out.tick]; rfl) rfl).mono ?_
              rintro e w3 ⟨rfl, hD3, ht3⟩
              have hT3 := hT2.trans (W := fun _ => False) ht3 (fun _ h => h) (fun i hi => .inr (hfr'.out i hi))
              have hl3 := ownsRow_turned (ownsRow_turned hz.out.1 ht2 (fun _ e => e.elim)) ht3 (fun _ => dB_lt)
              have hA3 := Lib.hid hA'.out.step
              clear hD2 hT2 ht2 ht3 hr2
              generalize A.write I (fullB (100 + I)) = A3 at *
              obtain ⟨iF, hi0, hz0, hz1, hz2⟩ := info_parts fateinfo
              have hIF := Lib.hid (And.intro hi0 (And.intro hz0 (And.intro hz1 hz2)))
              clear hi0 hz0 hz1 hz2
              cases hkb : kbit j I with
              | true =>
                have hkb2 : (bits BinOp.and IntKind.i64 ((j : Int) / 2 ^ I.toNat) 1 == 1) = true := hkb
                have hkb' := Lib.hid hkb
                have hl3' := Lib.hid hl3
                clear hkb hl3
                go_wp2_with (refine wpList_append_own_at _ rfl (.tmp 46) (.tmp 51) 23 rfl (dB d s o) 39 iF (.agg #[.int .i64 0]) 1 8 Try.underlying23 hIF.out.1 hIF.out.2.1 hIF.out.2.2.1 hIF.out.2.2.2 rfl (by omega) u3 fs.length (fs.map (.int .i64)) rfl (ownsRow_turned hl3'.out ((Turned.refl (fun _ => False) _).alloc _) (fun _ e => e.elim)) ⟨w3.heap.size, 0, none⟩ 2 2 [.int .i64 I, .int .i64 I] rfl rfl ?_ ?_ (by have := hz.out.2.2.1; unfold maxLen; omega) (by have := hz.out.2.2.1; omega) (Nat.le_trans (dB_le hD3) (by simp)) ?_)
                · exact fun i u hu => by
                    rw [Addr.add_mid, Nat.zero_add, (Blk.new w3 39 #[.int .i64 I, .int .i64 I]).cell]
                    simpa using hu
                · intro u hu; simp at hu; subst hu; rfl
                · intro v' w4 hl4 hg4 _ _
                  have hrow : ∀ k, u3.ownBlock = some k → dB d s o ≤ k := fun k hk => own_block_ge hl3'.out hk
                  have ht4 : Turned (fun k => dB d s o ≤ k) w3 w4 := ((Turned.refl _ w3).alloc _).grown hg4 (fun k hk => .inl (hrow k hk))
                  have hR : L3Rel d s o w (dB d s o) (kbit j) v' (.int .i64 (I - 1)) w4 := ⟨I - 1, A3, fs ++ [I, I], by omega, by omega, rfl, hD3.turned ht4 (fun k hk e => by have := dB_lt hk; have e' : dB d s o ≤ k := e; omega), hA3.out,
                    by rw [List.map_append, List.length_append]; exact hl4, more_fates hz.out.2.1 hkb'.out, by rw [List.length_append]; have := hz.out.2.2.1; simp; omega,
                    fun f hf => by
                      rcases List.mem_append.1 hf with h | h
                      · exact hz.out.2.2.2 f h
                      · simp at h; subst h; exact wf_of f (by omega) (by omega),
                    hT3.trans (W := fun _ => False) ht4 (fun _ h => h) (fun i hi => .inr (by have := hfr'.out d (.inl rfl); have := dB_lt (d := d) (s := s) (o := o) (.inl rfl); have e' : dB d s o ≤ i := hi; omega))⟩
                  have hR' := Lib.hid hR
                  clear hR ht4 hg4 hl4 hD3 hT3 hrow
                  go_wp2
                  go_roundw
                  case rel =>
                    first
                    | exact hR'.out
                    | ((repeat apply Exists.intro); exact ⟨hR'.out, rfl⟩)
                  case measure => simp [intOf]; omega
              | false =>
                have hkb2 : (bits BinOp.and IntKind.i64 ((j : Int) / 2 ^ I.toNat) 1 == 1) = false := hkb
                have hR : L3Rel d s o w (dB d s o) (kbit j) u3 (.int .i64 (I - 1)) w3 := ⟨I - 1, A3, fs, by omega, by omega, rfl, hD3, hA3.out, hl3, same_fates hz.out.2.1 hkb, by have := hz.out.2.2.1; omega, hz.out.2.2.2, hT3⟩
                have hR' := Lib.hid hR
                clear hR hD3 hl3 hT3 hkb
                go_wp2
                go_roundw
                case rel =>
                  first
                  | exact hR'.out
                  | ((repeat apply Exists.intro); exact ⟨hR'.out, rfl⟩)
                case measure => simp [intOf]; omega
            · have hI' : I = -1 := by omega
              have hW := Lib.hid ((hI' ▸ hA'.out : Thd A (-1)).wake (j := j) (fs := fs) (hI' ▸ hz.out.2.1))
              obtain ⟨F, fn, fc, rfl, hF⟩ := ints_of_own hz.out.1 hz.out.2.2.2 (by have := hz.out.2.2.1; omega) (dB_lt (d := d) (s := s) (o := o) (.inl rfl))
              have hlt : I < 0 := by omega
              clear hI' hI hI0 hI3 hA' hz
              go_wp2_with fail
              refine (wake_any d s o A F fn fc fs _ hD hF).mono ?_
              rintro e w4 ⟨rfl, hD4, ht4⟩
              have hT4 := hT.trans (W := fun _ => False) ht4 (fun _ h => h) (fun i hi => .inr (hfr'.out i hi))
              generalize A.wake fs = A4 at *
              clear hF ht4 hD hT hlt hD2 hT2 hA2
              go_wp2_with fail
              go_loopw [6] (fun v wr => L4Rel d s o A4 w v wr) (fun v _ => 3 - (intOf v).toNat)
              case atStart => exact ⟨0, by omega, by omega, rfl, hD4, hT4⟩
              case round =>
                obtain ⟨I, hI0, hI3, rfl, hD, hT⟩ := hrel
                clear hD4 hT4
                by_cases hI : I < 3
                · go_wp2_with fail
                  refine (read_to d s o A4 I (fullB (if kbit j I then 100 + I else I)) _ hD hW.out.down hI0 (by rw [hW.out.n]; exact hI) (hW.out.lat I hI0 hI)).mono ?_
                  rintro e w5 ⟨g, cap, rfl, hr5, hg5, ht5⟩
                  have hD5 := hD.fresh ht5
                  have hT5 := hT.trans (W := fun _ => False) ht5 (fun _ h => h) (fun _ h => .inl h)
                  clear hD hT ht5 hg5
                  cases hkb : kbit j I with
                  | true =>
                    have hkb2 : (bits BinOp.and IntKind.i64 ((j : Int) / 2 ^ I.toNat) 1 == 1) = true := hkb
                    rw [hkb, if_pos rfl] at hr5
                    clear hkb
                    go_wp2_with fail
                    have hb1 : (I + 100) = 100 + I := by omega
                    have hb1' := Lib.hid hb1
                    clear hb1
                    refine (full_any _ _ (by omega) (by omega)).mono ?_
                    rintro e w6 ⟨g6, rfl, hr6, hg6, ht6⟩
                    have hD6 := hD5.fresh ht6
                    have hr56 := hr5.turned ht6 (fun e => e)
                    have hT6 := hT5.trans (W := fun _ => False) ht6 (fun _ h => h) (fun _ h => .inl h)
                    clear hD5 hT5 ht6 hg6 hr5
                    go_wp2_with fail
                    refine (same_yes _ _ 512 512 _ _ _ _ _ hr56.bytR hr6.bytR (by first | rfl | rw [hb1'.out])).mono ?_
                    rintro e w7 ⟨rfl, n7, rfl⟩
                    have hR : L4Rel d s o A4 w (.int .i64 (I + 1)) (w6.drewN n7) := ⟨I + 1, by omega, by omega, rfl, hD6.fresh ((Turned.refl _ _).drewN n7), hT6.drewN n7⟩
                    have hR' := Lib.hid hR
                    clear hR hD6 hT6 hr56 hr6
                    go_wp2
                    go_roundw
                    case rel =>
                      first
                      | exact hR'.out
                      | ((repeat apply Exists.intro); exact ⟨hR'.out, rfl⟩)
                    case measure => simp [intOf]; omega
                  | false =>
                    have hkb2 : (bits BinOp.and IntKind.i64 ((j : Int) / 2 ^ I.toNat) 1 == 1) = false := hkb
                    rw [hkb, if_neg (by decide)] at hr5
                    clear hkb
                    go_wp2_with fail
                    refine (full_any _ _ (by omega) (by omega)).mono ?_
                    rintro e w6 ⟨g6, rfl, hr6, hg6, ht6⟩
                    have hD6 := hD5.fresh ht6
                    have hr56 := hr5.turned ht6 (fun e => e)
                    have hT6 := hT5.trans (W := fun _ => False) ht6 (fun _ h => h) (fun _ h => .inl h)
                    clear hD5 hT5 ht6 hg6 hr5
                    go_wp2_with fail
                    refine (same_yes _ _ 512 512 _ _ _ _ _ hr56.bytR hr6.bytR rfl).mono ?_
                    rintro e w7 ⟨rfl, n7, rfl⟩
                    have hR : L4Rel d s o A4 w (.int .i64 (I + 1)) (w6.drewN n7) := ⟨I + 1, by omega, by omega, rfl, hD6.fresh ((Turned.refl _ _).drewN n7), hT6.drewN n7⟩
                    have hR' := Lib.hid hR
                    clear hR hD6 hT6 hr56 hr6
                    go_wp2
                    go_roundw
                    case rel =>
                      first
                      | exact hR'.out
                      | ((repeat apply Exists.intro); exact ⟨hR'.out, rfl⟩)
                    case measure => simp [intOf]; omega
                · have hge : 3 ≤ I := by omega
                  have hR : L0Rel w (.int .i64 ((j : Int) + 1)) wr := ⟨j + 1, by omega, by go_num, hT⟩
                  have hR' := Lib.hid hR
                  clear hR hD hT
                  go_wp2
                  go_roundw
                  case rel =>
                    first
                    | exact hR'.out
                    | ((repeat apply Exists.intro); exact ⟨hR'.out, rfl⟩)
                  case measure => simp [intOf]; omega
    · have hji : (8 : Int) ≤ (j : Int) := by omega
      go_wp2
      go_ret
      exact ⟨rfl, hT⟩
end Go.Proofs.Ytobjoafhhchjgaa
