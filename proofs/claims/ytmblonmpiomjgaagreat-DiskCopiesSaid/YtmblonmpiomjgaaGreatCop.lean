/-
  DiskCopies' walk: a disk and its copy go on by themselves.
-/
import Derived.Test.YtmblonmpiomjgaaGreatApt
import Derived.Test.YtmblonmpiomjgaaGreatTrn
namespace Go.Proofs.YtmblonmpiomjgaaGreat
open Go.RowKit Go.Maps
set_option linter.unusedVariables false

theorem dsk_u8 {w : World} {d s o g : Nat} {A : DA} {cs : Array Value} (h : IsDisk w d s o A) (hb : Blk w g 5 cs) : ¬ dskW d s o g := by
  intro e
  obtain ⟨vs, vo, m1, m2, _⟩ := h.maps
  rcases e with rfl | rfl | rfl
  · exact absurd (hb.inj h.blk).2 (by decide)
  · exact m1.ne_blk hb rfl
  · exact m2.ne_blk hb rfl
theorem both_u8 {w : World} {base d s o r m g : Nat} {lv : Value} {X : Nat → RS} {A : DA} {cs : Array Value} (h : Both w base d s o r lv m X A) (hb : Blk w g 5 cs) : ¬ BothW d s o r lv g := by
  intro e
  obtain ⟨vs, vo, m1, m2, _⟩ := h.dsk.maps
  rcases e with (rfl | rfl | rfl) | rfl | e
  · exact absurd (hb.inj h.dsk.blk).2 (by decide)
  · exact m1.ne_blk hb rfl
  · exact m2.ne_blk hb rfl
  · exact absurd (hb.inj h.ref.blk).2 (by decide)
  · rcases h.ref.row.openG with ⟨rfl, _⟩ | ⟨g', cap, rfl, hG⟩
    · cases e
    · obtain ⟨cs', hb'⟩ := hG.blk
      have e' : g' = g := by simpa [Value.ownBlock] using e
      subst e'
      exact absurd (hb.inj hb').2 (by decide)
theorem ref_bytes {w : World} {base r m k : Nat} {lv : Value} {X : Nat → RS} {A : DA} (h : IsRef w base r lv A m X) (hk : BytesOf m X k) : ∃ cs, Blk w k 5 cs := by
  obtain ⟨i, hi, hk⟩ := hk
  have key : ∀ v zs, SecAt w v zs → v.ownBlock = some k → ∃ cs, Blk w k 5 cs := fun v zs ⟨_, g, cap, e, hr⟩ hv => by
    rw [e] at hv
    have : g = k := by simpa [Value.ownBlock] using hv
    subst this
    exact hr.opened
  rcases hk with hk | hk
  · exact key _ _ (h.byt i hi).1 hk
  · exact key _ _ (h.byt i hi).2 hk
theorem both_lt {w : World} {base d s o r m k : Nat} {lv : Value} {X : Nat → RS} {A : DA} (h : Both w base d s o r lv m X A) (hk : BothW d s o r lv k) : k < w.heap.size := by
  rcases hk with hk | rfl | hk
  · exact h.dsk.lt hk
  · exact h.ref.r_lt
  · exact h.ref.lv_lt hk
/-- The other pair stays as it was. -/
theorem both_apart {w w' : World} {base d s o r m e s2 o2 q mq : Nat} {lv lq : Value} {X Xq : Nat → RS} {A Aq : DA} (h1 : Both w base d s o r lv m X A) (h2 : Both w base e s2 o2 q lq mq Xq Aq)
    (sep : ∀ k, BothW d s o r lv k → ¬ BothW e s2 o2 q lq k) (ht : Turned (BothW d s o r lv) w w') : Both w' base e s2 o2 q lq mq Xq Aq :=
  ⟨h2.dsk.turned ht (fun k hk hk' => sep k hk' (.inl hk)), h2.ref.apart ht (fun hk => sep q hk (.inr (.inl rfl))) (fun k hk hk' => sep k hk' (.inr (.inr hk))) (fun k hk hk' => by
    obtain ⟨cs, hb⟩ := ref_bytes h2.ref hk
    exact both_u8 h1 hb hk')⟩
theorem sep_step {w : World} {base d s o r m m' e s2 o2 q mq : Nat} {lv lv' lq : Value} {X X' Xq : Nat → RS} {Aq : DA} (h2 : Both w base e s2 o2 q lq mq Xq Aq) (sep : ∀ k, BothW d s o r lv k → ¬ BothW e s2 o2 q lq k) (hn : Near w lv m X lv' m' X') :
    ∀ k, BothW d s o r lv' k → ¬ BothW e s2 o2 q lq k := by
  intro k hk
  rcases hk with hk | hk | hk
  · exact sep k (.inl hk)
  · exact sep k (.inr (.inl hk))
  · rcases hn.row with e1 | e1
    · exact sep k (.inr (.inr (by rw [← e1]; exact hk)))
    · intro hk2
      have := both_lt h2 hk2
      have := e1 k hk
      omega
def LivR (w : World) (d s o r : Nat) (wr : World) : Prop := ∃ lv m X A, Both wr w.heap.size d s o r lv m X A ∧ Turned (fun _ => False) w wr
def CopR1 (n : Nat) (w : World) (d s o r : Nat) (i : Value) (wr : World) : Prop := ∃ j : Nat, j ≤ n ∧ i = .int .i64 j ∧ LivR w d s o r wr
def FewR (n : Nat) (D : Nat → DoV) (w2 : World) (i : Value) (wr : World) : Prop := ∃ j : Nat, j ≤ n ∧ i = .int .i64 j ∧ (∀ t, t < j → (D t).fn ≤ 1000) ∧ wr = w2
/-- Both pairs, apart. -/
def Two (w : World) (d s o r e s2 o2 q : Nat) (wr : World) : Prop := ∃ lv m X A lq mq Xq Aq, Both wr w.heap.size d s o r lv m X A ∧ Both wr w.heap.size e s2 o2 q lq mq Xq Aq ∧ (∀ k, BothW d s o r lv k → ¬ BothW e s2 o2 q lq k) ∧ Turned (fun _ => False) w wr
theorem Two.swap {w wr : World} {d s o r e s2 o2 q : Nat} (h : Two w d s o r e s2 o2 q wr) : Two w e s2 o2 q d s o r wr := by
  obtain ⟨lv, m, X, A, lq, mq, Xq, Aq, h1, h2, h3, h4⟩ := h
  exact ⟨lq, mq, Xq, Aq, lv, m, X, A, h2, h1, fun k a b => h3 k b a, h4⟩
theorem liv_turned {w wr w' : World} {base d s o r m : Nat} {lv : Value} {X : Nat → RS} {A : DA} (h : Both wr base d s o r lv m X A) (hlo : ∀ k, dskW d s o k → base ≤ k) (hb : base = w.heap.size) (ht : Turned (fun _ => False) w wr) (ht3 : Turned (BothW d s o r lv) wr w') : Turned (fun _ => False) w w' :=
  ht.trans ht3 (fun _ e => e) (fun k e => by
    right
    rcases e with e | rfl | e
    · rw [← hb]; exact hlo k e
    · rw [← hb]; exact h.ref.rb
    · rw [← hb]; exact own_block_ge (h.ref.row.own.choose_spec.1) e)
def CopR2 (p n : Nat) (w : World) (d s o r e s2 o2 q : Nat) (i : Value) (wr : World) : Prop := ∃ j : Nat, p ≤ j ∧ j ≤ n ∧ i = .int .i64 j ∧ Two w d s o r e s2 o2 q wr
def CopR3 (p n : Nat) (w : World) (d s o r e s2 o2 q : Nat) (i : Value) (wr : World) : Prop := ∃ j : Nat, p ≤ j ∧ j ≤ n ∧ i = .int .i64 ((j : Int) - 1) ∧ Two w d s o r e s2 o2 q wr

set_option maxRecDepth 100000 in
set_option maxHeartbeats 8000000 in
theorem diskCopies_few (sectors : Int) (L : Option Addr) (n c : Nat) (D : Nat → DoV) (at_ : Int) (w : World) (hL : DosR w w.heap.size L n D) (hnc : n ≤ c) (hcm : c ≤ maxLen) (hn : n ≤ 80) (hs : 1 ≤ sectors ∧ sectors ≤ 8192) (hat : -9223372036854775808 ≤ at_ ∧ at_ ≤ 9223372036854775807) :
    Calls Tryz.prog 3 #[.int .i64 sectors, .slice L n c, .int .i64 at_] w (OkNew w) := by
  unfold maxLen at hcm
  have hni : (n : Int) ≤ 80 := by omega
  have hL' := Lib.hid hL
  have e0 := Int.emod_nonneg at_ (show ((n : Nat) : Int) + 1 ≠ 0 by omega)
  have e1 := Int.emod_lt_of_pos at_ (show (0 : Int) < ((n : Nat) : Int) + 1 by omega)
  obtain ⟨p, hp⟩ : ∃ p : Nat, at_ % (((n : Nat) : Int) + 1) = (p : Int) := ⟨(at_ % (((n : Nat) : Int) + 1)).toNat, by omega⟩
  rw [hp] at e0 e1
  have hpk := fun w => pick_any at_ (((n : Nat) : Int) + 1) w (by omega) (by omega) hat.1 hat.2
  rw [hp] at hpk
  have hpk' := Lib.hid hpk
  have hpn : p ≤ n := by omega
  have hpn' : (p : Int) ≤ ((n : Nat) : Int) := by omega
  clear hL hp hpk e0 e1
  go_enter Tryz.func3, Tryz.ntmps3
  go_wp2_with fail
  refine (new_yes sectors _ hs.1 hs.2).mono ?_
  rintro e w1 ⟨d, s, o, rfl, hD1, ht1, hfr, _⟩
  go_wp2_with fail
  refine (rnew_yes sectors w.heap.size _ ht1.size hs.1 hs.2).mono ?_
  rintro e w2 ⟨r, rfl, hR2, ht2⟩
  have hB2 : LivR w d s o r w2 := ⟨_, _, _, _, ⟨hD1.fresh ht2, hR2⟩, ht1.trans (W := fun _ => False) ht2 (fun _ e => e) (fun _ e => e.elim)⟩
  have hB2' := Lib.hid hB2
  have hT2 := Lib.hid (ht1.trans (W := fun _ => False) ht2 (fun _ e => e) (fun _ e => e.elim))
  have hfr' := Lib.hid hfr
  clear hD1 ht1 hfr hR2 ht2 hB2
  go_wp2_with fail
  refine (hpk'.out _).mono ?_
  rintro e w3 ⟨rfl, rfl⟩
  go_wp2_with fail
  go_loopw [9] (fun i wr => FewR (n) D w2 i wr) (fun i _ => n - (intOf i).toNat)
  case atStart => exact ⟨0, by omega, rfl, fun t ht => absurd ht (by omega), rfl⟩
  case round =>
    obtain ⟨j, hj, rfl, hfew, hwr⟩ := hrel
    have hfew' := Lib.hid hfew
    clear hfew
    subst hwr
    have hL := hL'.out.keep hT2.out (fun _ e => e.elim) (Nat.le_refl _)
    by_cases hlt : j < n
    · have hji : (j : Int) < ((n : Nat) : Int) := by omega
      have hji2 : (j : Int) < (n : Int) := by omega
      obtain ⟨b, off, rfl, hb, hall⟩ := hL.at_ (by omega)
      have q4 := (hall j hlt).c4
      clear hall hL
      by_cases hf : (D j).fn > 1000
      · have hfi : (1000 : Int) < ((D j).fn : Int) := by omega
        go_wp2_with fail
        refine (awake_any _).mono ?_
        rintro e w3 ⟨rfl, ht3⟩
        go_wp2_with fail
        go_ret
        exact ⟨rfl, hT2.out.trans (W := fun _ => False) ht3 (fun _ e => e) (fun _ e => e.elim)⟩
      · have hfi : ((D j).fn : Int) ≤ 1000 := by omega
        have hR' := Lib.hid (show FewR (n) D wr (.int .i64 ((j + 1 : Nat) : Int)) wr from ⟨j + 1, by omega, rfl, fun t ht => by
          rcases Nat.lt_or_ge t j with h | h
          · exact hfew'.out t h
          · have : t = j := by omega
            subst this; omega, rfl⟩)
        go_wp2_with fail
        go_roundw
        case rel =>
          have hz : Value.int .i64 ((j : Int) + 1) = .int .i64 ((j + 1 : Nat) : Int) := by go_num
          first
          | (rw [hz]; exact hR'.out)
          | ((repeat apply Exists.intro); exact ⟨by rw [hz]; exact hR'.out, rfl⟩)
        case measure => simp [intOf]; omega

    · have hjn : n = j := by omega
      subst hjn
      have hge : ((n : Nat) : Int) ≤ ((n : Nat) : Int) := Int.le_refl _
      have hfw := Lib.hid hfew'.out
      clear hL hfew'
      go_wp2_with fail
      go_loopw [10] (fun i wr => CopR1 p w d s o r i wr) (fun i _ => p - (intOf i).toNat)
      case atStart => exact ⟨0, by omega, rfl, hB2'.out⟩
      case round =>
        clear hB2' hT2
        obtain ⟨j, hj, rfl, lv, m, X, A, hB, ht⟩ := hrel
        have hL := hL'.out.keep ht (fun _ e => e.elim) (Nat.le_refl _)
        have hBh := Lib.hid hB
        have hth := Lib.hid ht
        by_cases hlt : j < p
        · have hji : (j : Int) < (p : Int) := by omega
          have hji2 : (j : Int) < ((n : Nat) : Int) := by omega
          have hji3 : (j : Int) < (n : Int) := by omega
          obtain ⟨b, off, rfl, hb, hall⟩ := hL.at_ (by omega)
          have hx := hall j (by omega)
          have hok := Lib.hid hx.ok
          obtain ⟨q0, q1, q2, q3, q4, _, _, _, _, _, _⟩ := hx
          clear hall hL
          have hstep := Lib.hid (step_any hBh.out (D j) hok.out (by have := hfw.out j (by omega); omega) hfr'.out)
          clear hB ht
          generalize hop : (D j).op = op at q0
          generalize hsec : (D j).sec = sec at q1
          generalize hnum : (D j).num = num at q2
          generalize hbyt : (D j).byt = byt at q3
          generalize hF : (D j).F = F at q4
          generalize hfn : (D j).fn = fn at q4
          generalize hfc : (D j).fc = fc at q4
          have hH := Lib.hid (And.intro hop (And.intro hsec (And.intro hnum (And.intro hbyt (And.intro hF (And.intro hfn hfc))))))
          clear hop hsec hnum hbyt hF hfn hfc
          go_wp2_with fail
          have hst := hstep.out
          rw [hH.out.1, hH.out.2.1, hH.out.2.2.1, hH.out.2.2.2.1, hH.out.2.2.2.2.1, hH.out.2.2.2.2.2.1, hH.out.2.2.2.2.2.2] at hst
          refine hst.mono ?_
          clear hst
          rintro e w3 ⟨rfl, ⟨lv3, m3, X3, hB3, hN3⟩, ht3⟩
          have hR' := Lib.hid (show CopR1 p w d s o r (.int .i64 ((j + 1 : Nat) : Int)) w3 from ⟨j + 1, by omega, rfl, _, _, _, _, hB3, liv_turned hBh.out hfr'.out rfl hth.out ht3⟩)
          clear hN3 hB3 ht3
          go_wp2_with fail
          go_roundw
          case rel =>
            have hz : Value.int .i64 ((j : Int) + 1) = .int .i64 ((j + 1 : Nat) : Int) := by go_num
            first
            | (rw [hz]; exact hR'.out)
            | ((repeat apply Exists.intro); exact ⟨by rw [hz]; exact hR'.out, rfl⟩)
          case measure => simp [intOf]; omega

        · have hjn : p = j := by omega
          subst hjn
          have hge : (p : Int) ≤ (p : Int) := Int.le_refl _
          clear hL hB ht
          go_wp2_with fail
          refine (dcopy_any hBh.out.dsk).mono ?_
          rintro e w3 ⟨e2, s2, o2, rfl, hD3, ht3, hfr2⟩
          have hB3 := hBh.out.fresh ht3
          have hB3' := Lib.hid hB3
          have hD3' := Lib.hid hD3
          have hT3' := Lib.hid ht3
          have hfr2' := Lib.hid hfr2
          clear hB3 hD3 ht3 hfr2
          go_wp2_with fail
          refine (rcopy_any hB3'.out.ref).mono ?_
          rintro e w4 ⟨q, lq, rfl, hQ4, ht4, hq4, hlq⟩
          have hT4 := (hth.out.trans (W := fun _ => False) hT3'.out (fun _ e => e) (fun _ e => e.elim)).trans (W := fun _ => False) ht4 (fun _ e => e) (fun _ e => e.elim)
          have hlo2 : ∀ k, dskW e2 s2 o2 k → w.heap.size ≤ k := fun k hk => Nat.le_trans hth.out.size (hfr2'.out k hk)
          have hlo2' := Lib.hid hlo2
          have hTw : Two w d s o r e2 s2 o2 q w4 := by
            refine ⟨lv, m, X, A, lq, m, X, A, hB3'.out.fresh ht4, ⟨hD3'.out.fresh ht4, hQ4⟩, fun k hk hk2 => ?_, hT4⟩
            have h1 := both_lt hBh.out hk
            have h3 := both_lt hB3'.out hk
            rcases hk2 with hk2 | rfl | hk2
            · have := hfr2'.out k hk2; omega
            · omega
            · have := hlq k hk2; omega
          have hTw' := Lib.hid hTw
          clear hQ4 ht4 hq4 hlq hT4 hlo2 hTw hB3' hD3' hT3' hfr2' hBh hth
          go_wp2_with fail
          go_loopw [13] (fun i wr => CopR2 p (n) w d s o r e2 s2 o2 q i wr) (fun i _ => n - (intOf i).toNat)
          case atStart => exact ⟨p, Nat.le_refl _, hpn, rfl, hTw'.out⟩
          case round =>
            clear hTw'
            obtain ⟨j, hpj, hj, rfl, lv, m, X, A, lq, mq, Xq, Aq, hB, hBq, hsep, ht⟩ := hrel
            have hL := hL'.out.keep ht (fun _ e => e.elim) (Nat.le_refl _)
            have hBh := Lib.hid hB
            have hBqh := Lib.hid hBq
            have hsh := Lib.hid hsep
            have hth := Lib.hid ht
            by_cases hlt : j < n
            · have hji : (j : Int) < ((n : Nat) : Int) := by omega
              have hji3 : (j : Int) < (n : Int) := by omega
              obtain ⟨b, off, rfl, hb, hall⟩ := hL.at_ (by omega)
              have hx := hall j (by omega)
              have hok := Lib.hid hx.ok
              obtain ⟨q0, q1, q2, q3, q4, _, _, _, _, _, _⟩ := hx
              clear hall hL
              have hstep := Lib.hid (step_any hBh.out (D j) hok.out (by have := hfw.out j (by omega); omega) hfr'.out)
              clear hB hBq hsep ht
              generalize hop : (D j).op = op at q0
              generalize hsec : (D j).sec = sec at q1
              generalize hnum : (D j).num = num at q2
              generalize hbyt : (D j).byt = byt at q3
              generalize hF : (D j).F = F at q4
              generalize hfn : (D j).fn = fn at q4
              generalize hfc : (D j).fc = fc at q4
              have hH := Lib.hid (And.intro hop (And.intro hsec (And.intro hnum (And.intro hbyt (And.intro hF (And.intro hfn hfc))))))
              clear hop hsec hnum hbyt hF hfn hfc
              go_wp2_with fail
              have hst := hstep.out
              rw [hH.out.1, hH.out.2.1, hH.out.2.2.1, hH.out.2.2.2.1, hH.out.2.2.2.2.1, hH.out.2.2.2.2.2.1, hH.out.2.2.2.2.2.2] at hst
              refine hst.mono ?_
              clear hst
              rintro e w3 ⟨rfl, ⟨lv3, m3, X3, hB3, hN3⟩, ht3⟩
              have hR' := Lib.hid (show CopR2 p (n) w d s o r e2 s2 o2 q (.int .i64 ((j + 1 : Nat) : Int)) w3 from ⟨j + 1, by omega, by omega, rfl, _, _, _, _, _, _, _, _, hB3, both_apart hBh.out hBqh.out hsh.out ht3, sep_step hBqh.out hsh.out hN3, liv_turned hBh.out hfr'.out rfl hth.out ht3⟩)
              clear hN3 hB3 ht3
              go_wp2_with fail
              go_roundw
              case rel =>
                have hz : Value.int .i64 ((j : Int) + 1) = .int .i64 ((j + 1 : Nat) : Int) := by go_num
                first
                | (rw [hz]; exact hR'.out)
                | ((repeat apply Exists.intro); exact ⟨by rw [hz]; exact hR'.out, rfl⟩)
              case measure => simp [intOf]; omega
            · have hjn : n = j := by omega
              subst hjn
              have hge : ((n : Nat) : Int) ≤ ((n : Nat) : Int) := Int.le_refl _
              have hTw : Two w d s o r e2 s2 o2 q wr := ⟨lv, m, X, A, lq, mq, Xq, Aq, hB, hBq, hsep, ht⟩
              have hTw' := Lib.hid hTw
              clear hL hB hBq hsep ht hTw hBh hBqh hsh hth
              go_wp2_with fail
              go_loopw [14] (fun i wr => CopR3 p (n) w d s o r e2 s2 o2 q i wr) (fun i _ => (intOf i + 1).toNat)
              case atStart => exact ⟨n, hpn, Nat.le_refl _, rfl, hTw'.out⟩
              case round =>
                clear hTw'
                obtain ⟨j, hpj, hj, rfl, lv, m, X, A, lq, mq, Xq, Aq, hB, hBq, hsep, ht⟩ := hrel
                have hL := hL'.out.keep ht (fun _ e => e.elim) (Nat.le_refl _)
                have hBh := Lib.hid hB
                have hBqh := Lib.hid hBq
                have hsh := Lib.hid hsep
                have hth := Lib.hid ht
                by_cases hlt : p < j
                · obtain ⟨i, rfl⟩ : ∃ i, j = i + 1 := ⟨j - 1, by omega⟩
                  have hii : (((i + 1 : Nat) : Int)) - 1 = (i : Int) := by omega
                  rw [hii]
                  have hji : (p : Int) ≤ (i : Int) := by omega
                  have hji2 : (i : Int) < ((n : Nat) : Int) := by omega
                  have hji3 : (i : Int) < (n : Int) := by omega
                  clear hii
                  obtain ⟨b, off, rfl, hb, hall⟩ := hL.at_ (by omega)
                  have hx := hall i (by omega)
                  have hok := Lib.hid hx.ok
                  obtain ⟨q0, q1, q2, q3, q4, _, _, _, _, _, _⟩ := hx
                  clear hall hL
                  have hstep := Lib.hid (step_any hBqh.out (D i) hok.out (by have := hfw.out i (by omega); omega) hlo2'.out)
                  clear hB hBq hsep ht
                  generalize hop : (D i).op = op at q0
                  generalize hsec : (D i).sec = sec at q1
                  generalize hnum : (D i).num = num at q2
                  generalize hbyt : (D i).byt = byt at q3
                  generalize hF : (D i).F = F at q4
                  generalize hfn : (D i).fn = fn at q4
                  generalize hfc : (D i).fc = fc at q4
                  have hH := Lib.hid (And.intro hop (And.intro hsec (And.intro hnum (And.intro hbyt (And.intro hF (And.intro hfn hfc))))))
                  clear hop hsec hnum hbyt hF hfn hfc
                  go_wp2_with fail
                  have hst := hstep.out
                  rw [hH.out.1, hH.out.2.1, hH.out.2.2.1, hH.out.2.2.2.1, hH.out.2.2.2.2.1, hH.out.2.2.2.2.2.1, hH.out.2.2.2.2.2.2] at hst
                  refine hst.mono ?_
                  clear hst
                  rintro e w3 ⟨rfl, ⟨lv3, m3, X3, hB3, hN3⟩, ht3⟩
                  have hR' := Lib.hid (show CopR3 p (n) w d s o r e2 s2 o2 q (.int .i64 ((i : Int) - 1)) w3 from ⟨i, by omega, by omega, rfl, _, _, _, _, _, _, _, _, both_apart hBqh.out hBh.out (fun k a b => hsh.out k b a) ht3, hB3, (fun k a b => sep_step hBh.out (fun k a b => hsh.out k b a) hN3 k b a), liv_turned hBqh.out hlo2'.out rfl hth.out ht3⟩)
                  clear hN3 hB3 ht3
                  go_wp2_with fail
                  first
                  | exact ⟨hR'.out, by first | (simp [intOf]; done) | (simp [intOf]; omega)⟩
                  | (refine ⟨?_, by first | (simp [intOf]; done) | (simp [intOf]; omega)⟩; (repeat apply Exists.intro); exact ⟨hR'.out, rfl⟩)
                · have hjp : p = j := by omega
                  subst hjp
                  have hge : (p : Int) - 1 < (p : Int) := by omega
                  have hLh := Lib.hid hL
                  clear hL hB hBq hsep ht
                  go_wp2_with fail
                  refine (like_any hBh.out _ _ _ D hLh.out).mono ?_
                  rintro e w3 ⟨rfl, ht3⟩
                  have hB3 := Lib.hid (hBh.out.fresh ht3)
                  have hBq3 := Lib.hid (hBqh.out.fresh ht3)
                  have hL3 := Lib.hid (hLh.out.keep ht3 (fun _ e => e.elim) hth.out.size)
                  have hT3 := Lib.hid (hth.out.trans (W := fun _ => False) ht3 (fun _ e => e) (fun _ e => e.elim))
                  clear ht3 hBh hBqh hLh hth
                  go_wp2_with fail
                  refine (like_any hBq3.out _ _ _ D hL3.out).mono ?_
                  rintro e w4 ⟨rfl, ht4⟩
                  have hD4 := Lib.hid (hB3.out.dsk.fresh ht4)
                  have hT4 := Lib.hid (hT3.out.trans (W := fun _ => False) ht4 (fun _ e => e) (fun _ e => e.elim))
                  clear ht4 hB3 hBq3 hL3 hT3
                  go_wp2_with fail
                  refine (wake_any d s o A none 0 0 [] _ hD4.out ⟨rfl, by omega, by simp, fun h => absurd h (by omega)⟩).mono ?_
                  rintro e w5 ⟨rfl, hD5, ht5⟩
                  have hT5 := Lib.hid (hT4.out.trans (W := fun _ => False) ht5 (fun _ e => e) (fun k e => .inr (hfr'.out k e)))
                  have hD5' := Lib.hid hD5
                  clear hD5 ht5 hT4 hD4
                  go_wp2_with fail
                  refine (read_ok d s o (A.wake []) 0 _ hD5'.out rfl (by omega) (by have := hD5'.out.n1; omega)).mono ?_
                  rintro e w6 ⟨g1, c1, rfl, hr1, hg1, ht6⟩
                  have hD6 := Lib.hid (hD5'.out.fresh ht6)
                  have hT6 := Lib.hid (hT5.out.trans (W := fun _ => False) ht6 (fun _ e => e) (fun _ e => e.elim))
                  have hr1' := Lib.hid hr1
                  have hl1 := hr1.lt
                  have hb1 := Nat.le_trans hT5.out.size hg1
                  clear hr1 ht6 hD5' hT5 hg1
                  go_wp2_with fail
                  refine (read_ok d s o (A.wake []) 0 _ hD6.out rfl (by omega) (by have := hD6.out.n1; omega)).mono ?_
                  rintro e w7 ⟨g2, c2, rfl, hr2, hg2, ht7⟩
                  have hD7 := Lib.hid (hD6.out.fresh ht7)
                  have hT7 := Lib.hid (hT6.out.trans (W := fun _ => False) ht7 (fun _ e => e) (fun _ e => e.elim))
                  have hr17 := Lib.hid (hr1'.out.turned ht7 (fun e => e))
                  have hr2' := Lib.hid hr2
                  have hl2 := hr2.lt
                  have hb2 := Nat.le_trans hT6.out.size hg2
                  have h12 : g1 < g2 := by omega
                  clear hr2 ht7 hD6 hT6 hg2 hr1' hl1
                  go_wp2_with fail
                  refine (turn_bytes 512 g1 c1 _ _ hr17.out (by omega)).mono ?_
                  rintro e w8 ⟨rfl, ⟨ys, hr18⟩, ht8⟩
                  have hD8 := Lib.hid (hD7.out.turned ht8 (fun k hk e => by
                    have e' : k = g1 := e
                    subst e'
                    obtain ⟨cs, hb⟩ := hr17.out.opened
                    exact dsk_u8 hD7.out hb hk))
                  have hT8 := Lib.hid (hT7.out.trans (W := fun _ => False) ht8 (fun _ e => e) (fun k e => .inr (by have e' : k = g1 := e; omega)))
                  have hr28 := Lib.hid (hr2'.out.turned ht8 (fun e => by have e' : g2 = g1 := e; omega))
                  have hr18' := Lib.hid hr18
                  have hl8 := Nat.lt_of_lt_of_le hl2 ht8.size
                  clear hr18 ht8 hD7 hT7 hr17 hr2' hl2
                  go_wp2_with fail
                  refine (read_ok d s o (A.wake []) 0 _ hD8.out rfl (by omega) (by have := hD8.out.n1; omega)).mono ?_
                  rintro e w9 ⟨g3, c3, rfl, hr3, hg3, ht9⟩
                  have hT9 := Lib.hid (hT8.out.trans (W := fun _ => False) ht9 (fun _ e => e) (fun _ e => e.elim))
                  have hr19 := Lib.hid (hr18'.out.turned ht9 (fun e => e))
                  have hr29 := Lib.hid (hr28.out.turned ht9 (fun e => e))
                  have hr3' := Lib.hid hr3
                  have hb3 := Nat.le_trans hT8.out.size hg3
                  have h23 : g2 < g3 := by omega
                  clear hr3 ht9 hD8 hT8 hr18' hr28 hl8 hg3
                  go_wp2_with fail
                  refine (same_yes _ _ _ _ _ _ _ _ _ (hr29.out.bytS c2).toBytR (hr3'.out.bytS c3).toBytR rfl).mono ?_
                  rintro e w10 ⟨rfl, nq, rfl⟩
                  go_wp2_with fail
                  have hTa : ∀ v, Turned (fun _ => False) w9 ((w9.drewN nq).alloc v) := fun v => ((Turned.refl _ w9).drewN nq).alloc v
                  refine (apartBytes_any w9.heap.size 0 3 3 (fun k => if k = 0 then some ⟨g1, 0, none⟩ else if k = 1 then some ⟨g2, 0, none⟩ else some ⟨g3, 0, none⟩) (fun _ => 512) (fun k => if k = 0 then c1 else if k = 1 then c2 else c3) (fun k => if k = 0 then ys else (A.wake []).lat 0) _ (fun k hk => ?_) (fun k hk => ?_) (fun j k hj hk hne g e e2 => ?_) (by omega) (by omega) (fun _ _ => by omega)).mono ?_
                  · rw [(Blk.new_at (k := w9.heap.size) _ _ _ (by simp)).cell]
                    match k, hk with
                    | 0, _ => rfl
                    | 1, _ => rfl
                    | 2, _ => rfl
                  · match k, hk with
                    | 0, _ => exact OwnV.of_row (hr19.out.turned (hTa _) (fun e => e))
                    | 1, _ => exact OwnV.of_row (hr29.out.turned (hTa _) (fun e => e))
                    | 2, _ => exact OwnV.of_row (hr3'.out.turned (hTa _) (fun e => e))
                  · have key : ∀ k, k < 3 → (if k = 0 then some (⟨g1, 0, none⟩ : Addr) else if k = 1 then some ⟨g2, 0, none⟩ else some ⟨g3, 0, none⟩) = some ⟨if k = 0 then g1 else if k = 1 then g2 else g3, 0, none⟩ := fun k hk => by
                      match k, hk with
                      | 0, _ => rfl
                      | 1, _ => rfl
                      | 2, _ => rfl
                    rw [key j hj] at e
                    rw [key k hk] at e2
                    injection e with e
                    injection e with e
                    injection e2 with e2
                    injection e2 with e2
                    match j, hj, k, hk with
                    | 0, _, 0, _ => exact hne rfl
                    | 0, _, 1, _ => simp at e e2; omega
                    | 0, _, 2, _ => simp at e e2; omega
                    | 1, _, 0, _ => simp at e e2; omega
                    | 1, _, 1, _ => exact hne rfl
                    | 1, _, 2, _ => simp at e e2; omega
                    | 2, _, 0, _ => simp at e e2; omega
                    | 2, _, 1, _ => simp at e e2; omega
                    | 2, _, 2, _ => exact hne rfl
                  rintro e w11 ⟨rfl, ht11⟩
                  have hT11 : Turned (fun _ => False) w w11 := (hT9.out.trans (W := fun _ => False) (hTa _) (fun _ e => e) (fun _ e => e.elim)).trans ht11 (fun _ e => e) (fun g ⟨k, hk, e⟩ => .inr (by
                    match k, hk with
                    | 0, _ => simp at e; omega
                    | 1, _ => simp at e; omega
                    | 2, _ => simp at e; omega))
                  have hT11' := Lib.hid hT11
                  clear ht11 hT11 hTa
                  go_wp2_with fail
                  refine (awake_any _).mono ?_
                  rintro e w12 ⟨rfl, ht12⟩
                  go_wp2_with fail
                  go_ret
                  exact ⟨rfl, hT11'.out.trans (W := fun _ => False) ht12 (fun _ e => e) (fun _ e => e.elim)⟩

set_option maxRecDepth 100000 in
set_option maxHeartbeats 8000000 in
theorem diskCopies_many (sectors : Int) (L : Option Addr) (n c : Nat) (D : Nat → DoV) (at_ : Int) (w : World) (hL : DosR w w.heap.size L n D) (hnc : n ≤ c) (hcm : c ≤ maxLen) (hn : 80 < n) (hs : 1 ≤ sectors ∧ sectors ≤ 8192) (hat : -9223372036854775808 ≤ at_ ∧ at_ ≤ 9223372036854775807) :
    Calls Tryz.prog 3 #[.int .i64 sectors, .slice L n c, .int .i64 at_] w (OkNew w) := by
  unfold maxLen at hcm
  have hni : (80 : Int) < (n : Int) := by omega
  have hci : (80 : Int) ≤ (c : Int) := by omega
  have hL' := Lib.hid (hL.cut (m := 80) (by omega))
  have e0 := Int.emod_nonneg at_ (show ((80 : Nat) : Int) + 1 ≠ 0 by omega)
  have e1 := Int.emod_lt_of_pos at_ (show (0 : Int) < ((80 : Nat) : Int) + 1 by omega)
  obtain ⟨p, hp⟩ : ∃ p : Nat, at_ % (((80 : Nat) : Int) + 1) = (p : Int) := ⟨(at_ % (((80 : Nat) : Int) + 1)).toNat, by omega⟩
  rw [hp] at e0 e1
  have hpk := fun w => pick_any at_ (((80 : Nat) : Int) + 1) w (by omega) (by omega) hat.1 hat.2
  rw [hp] at hpk
  have hpk' := Lib.hid hpk
  have hpn : p ≤ 80 := by omega
  have hpn' : (p : Int) ≤ ((80 : Nat) : Int) := by omega
  clear hL hp hpk e0 e1
  go_enter Tryz.func3, Tryz.ntmps3
  go_wp2_with fail
  refine (new_yes sectors _ hs.1 hs.2).mono ?_
  rintro e w1 ⟨d, s, o, rfl, hD1, ht1, hfr, _⟩
  go_wp2_with fail
  refine (rnew_yes sectors w.heap.size _ ht1.size hs.1 hs.2).mono ?_
  rintro e w2 ⟨r, rfl, hR2, ht2⟩
  have hB2 : LivR w d s o r w2 := ⟨_, _, _, _, ⟨hD1.fresh ht2, hR2⟩, ht1.trans (W := fun _ => False) ht2 (fun _ e => e) (fun _ e => e.elim)⟩
  have hB2' := Lib.hid hB2
  have hT2 := Lib.hid (ht1.trans (W := fun _ => False) ht2 (fun _ e => e) (fun _ e => e.elim))
  have hfr' := Lib.hid hfr
  clear hD1 ht1 hfr hR2 ht2 hB2
  go_wp2_with fail
  refine (hpk'.out _).mono ?_
  rintro e w3 ⟨rfl, rfl⟩
  go_wp2_with fail
  go_loopw [9] (fun i wr => FewR (80) D w2 i wr) (fun i _ => 80 - (intOf i).toNat)
  case atStart => exact ⟨0, by omega, rfl, fun t ht => absurd ht (by omega), rfl⟩
  case round =>
    obtain ⟨j, hj, rfl, hfew, hwr⟩ := hrel
    have hfew' := Lib.hid hfew
    clear hfew
    subst hwr
    have hL := hL'.out.keep hT2.out (fun _ e => e.elim) (Nat.le_refl _)
    by_cases hlt : j < 80
    · have hji : (j : Int) < ((80 : Nat) : Int) := by omega
      have hji2 : (j : Int) < (80 : Int) := by omega
      obtain ⟨b, off, rfl, hb, hall⟩ := hL.at_ (by omega)
      have q4 := (hall j hlt).c4
      clear hall hL
      by_cases hf : (D j).fn > 1000
      · have hfi : (1000 : Int) < ((D j).fn : Int) := by omega
        go_wp2_with fail
        refine (awake_any _).mono ?_
        rintro e w3 ⟨rfl, ht3⟩
        go_wp2_with fail
        go_ret
        exact ⟨rfl, hT2.out.trans (W := fun _ => False) ht3 (fun _ e => e) (fun _ e => e.elim)⟩
      · have hfi : ((D j).fn : Int) ≤ 1000 := by omega
        have hR' := Lib.hid (show FewR (80) D wr (.int .i64 ((j + 1 : Nat) : Int)) wr from ⟨j + 1, by omega, rfl, fun t ht => by
          rcases Nat.lt_or_ge t j with h | h
          · exact hfew'.out t h
          · have : t = j := by omega
            subst this; omega, rfl⟩)
        go_wp2_with fail
        go_roundw
        case rel =>
          have hz : Value.int .i64 ((j : Int) + 1) = .int .i64 ((j + 1 : Nat) : Int) := by go_num
          first
          | (rw [hz]; exact hR'.out)
          | ((repeat apply Exists.intro); exact ⟨by rw [hz]; exact hR'.out, rfl⟩)
        case measure => simp [intOf]; omega

    · have hjn : 80 = j := by omega
      subst hjn
      have hge : ((80 : Nat) : Int) ≤ ((80 : Nat) : Int) := Int.le_refl _
      have hfw := Lib.hid hfew'.out
      clear hL hfew'
      go_wp2_with fail
      go_loopw [10] (fun i wr => CopR1 p w d s o r i wr) (fun i _ => p - (intOf i).toNat)
      case atStart => exact ⟨0, by omega, rfl, hB2'.out⟩
      case round =>
        clear hB2' hT2
        obtain ⟨j, hj, rfl, lv, m, X, A, hB, ht⟩ := hrel
        have hL := hL'.out.keep ht (fun _ e => e.elim) (Nat.le_refl _)
        have hBh := Lib.hid hB
        have hth := Lib.hid ht
        by_cases hlt : j < p
        · have hji : (j : Int) < (p : Int) := by omega
          have hji2 : (j : Int) < ((80 : Nat) : Int) := by omega
          have hji3 : (j : Int) < (80 : Int) := by omega
          obtain ⟨b, off, rfl, hb, hall⟩ := hL.at_ (by omega)
          have hx := hall j (by omega)
          have hok := Lib.hid hx.ok
          obtain ⟨q0, q1, q2, q3, q4, _, _, _, _, _, _⟩ := hx
          clear hall hL
          have hstep := Lib.hid (step_any hBh.out (D j) hok.out (by have := hfw.out j (by omega); omega) hfr'.out)
          clear hB ht
          generalize hop : (D j).op = op at q0
          generalize hsec : (D j).sec = sec at q1
          generalize hnum : (D j).num = num at q2
          generalize hbyt : (D j).byt = byt at q3
          generalize hF : (D j).F = F at q4
          generalize hfn : (D j).fn = fn at q4
          generalize hfc : (D j).fc = fc at q4
          have hH := Lib.hid (And.intro hop (And.intro hsec (And.intro hnum (And.intro hbyt (And.intro hF (And.intro hfn hfc))))))
          clear hop hsec hnum hbyt hF hfn hfc
          go_wp2_with fail
          have hst := hstep.out
          rw [hH.out.1, hH.out.2.1, hH.out.2.2.1, hH.out.2.2.2.1, hH.out.2.2.2.2.1, hH.out.2.2.2.2.2.1, hH.out.2.2.2.2.2.2] at hst
          refine hst.mono ?_
          clear hst
          rintro e w3 ⟨rfl, ⟨lv3, m3, X3, hB3, hN3⟩, ht3⟩
          have hR' := Lib.hid (show CopR1 p w d s o r (.int .i64 ((j + 1 : Nat) : Int)) w3 from ⟨j + 1, by omega, rfl, _, _, _, _, hB3, liv_turned hBh.out hfr'.out rfl hth.out ht3⟩)
          clear hN3 hB3 ht3
          go_wp2_with fail
          go_roundw
          case rel =>
            have hz : Value.int .i64 ((j : Int) + 1) = .int .i64 ((j + 1 : Nat) : Int) := by go_num
            first
            | (rw [hz]; exact hR'.out)
            | ((repeat apply Exists.intro); exact ⟨by rw [hz]; exact hR'.out, rfl⟩)
          case measure => simp [intOf]; omega

        · have hjn : p = j := by omega
          subst hjn
          have hge : (p : Int) ≤ (p : Int) := Int.le_refl _
          clear hL hB ht
          go_wp2_with fail
          refine (dcopy_any hBh.out.dsk).mono ?_
          rintro e w3 ⟨e2, s2, o2, rfl, hD3, ht3, hfr2⟩
          have hB3 := hBh.out.fresh ht3
          have hB3' := Lib.hid hB3
          have hD3' := Lib.hid hD3
          have hT3' := Lib.hid ht3
          have hfr2' := Lib.hid hfr2
          clear hB3 hD3 ht3 hfr2
          go_wp2_with fail
          refine (rcopy_any hB3'.out.ref).mono ?_
          rintro e w4 ⟨q, lq, rfl, hQ4, ht4, hq4, hlq⟩
          have hT4 := (hth.out.trans (W := fun _ => False) hT3'.out (fun _ e => e) (fun _ e => e.elim)).trans (W := fun _ => False) ht4 (fun _ e => e) (fun _ e => e.elim)
          have hlo2 : ∀ k, dskW e2 s2 o2 k → w.heap.size ≤ k := fun k hk => Nat.le_trans hth.out.size (hfr2'.out k hk)
          have hlo2' := Lib.hid hlo2
          have hTw : Two w d s o r e2 s2 o2 q w4 := by
            refine ⟨lv, m, X, A, lq, m, X, A, hB3'.out.fresh ht4, ⟨hD3'.out.fresh ht4, hQ4⟩, fun k hk hk2 => ?_, hT4⟩
            have h1 := both_lt hBh.out hk
            have h3 := both_lt hB3'.out hk
            rcases hk2 with hk2 | rfl | hk2
            · have := hfr2'.out k hk2; omega
            · omega
            · have := hlq k hk2; omega
          have hTw' := Lib.hid hTw
          clear hQ4 ht4 hq4 hlq hT4 hlo2 hTw hB3' hD3' hT3' hfr2' hBh hth
          go_wp2_with fail
          go_loopw [13] (fun i wr => CopR2 p (80) w d s o r e2 s2 o2 q i wr) (fun i _ => 80 - (intOf i).toNat)
          case atStart => exact ⟨p, Nat.le_refl _, hpn, rfl, hTw'.out⟩
          case round =>
            clear hTw'
            obtain ⟨j, hpj, hj, rfl, lv, m, X, A, lq, mq, Xq, Aq, hB, hBq, hsep, ht⟩ := hrel
            have hL := hL'.out.keep ht (fun _ e => e.elim) (Nat.le_refl _)
            have hBh := Lib.hid hB
            have hBqh := Lib.hid hBq
            have hsh := Lib.hid hsep
            have hth := Lib.hid ht
            by_cases hlt : j < 80
            · have hji : (j : Int) < ((80 : Nat) : Int) := by omega
              have hji3 : (j : Int) < (80 : Int) := by omega
              obtain ⟨b, off, rfl, hb, hall⟩ := hL.at_ (by omega)
              have hx := hall j (by omega)
              have hok := Lib.hid hx.ok
              obtain ⟨q0, q1, q2, q3, q4, _, _, _, _, _, _⟩ := hx
              clear hall hL
              have hstep := Lib.hid (step_any hBh.out (D j) hok.out (by have := hfw.out j (by omega); omega) hfr'.out)
              clear hB hBq hsep ht
              generalize hop : (D j).op = op at q0
              generalize hsec : (D j).sec = sec at q1
              generalize hnum : (D j).num = num at q2
              generalize hbyt : (D j).byt = byt at q3
              generalize hF : (D j).F = F at q4
              generalize hfn : (D j).fn = fn at q4
              generalize hfc : (D j).fc = fc at q4
              have hH := Lib.hid (And.intro hop (And.intro hsec (And.intro hnum (And.intro hbyt (And.intro hF (And.intro hfn hfc))))))
              clear hop hsec hnum hbyt hF hfn hfc
              go_wp2_with fail
              have hst := hstep.out
              rw [hH.out.1, hH.out.2.1, hH.out.2.2.1, hH.out.2.2.2.1, hH.out.2.2.2.2.1, hH.out.2.2.2.2.2.1, hH.out.2.2.2.2.2.2] at hst
              refine hst.mono ?_
              clear hst
              rintro e w3 ⟨rfl, ⟨lv3, m3, X3, hB3, hN3⟩, ht3⟩
              have hR' := Lib.hid (show CopR2 p (80) w d s o r e2 s2 o2 q (.int .i64 ((j + 1 : Nat) : Int)) w3 from ⟨j + 1, by omega, by omega, rfl, _, _, _, _, _, _, _, _, hB3, both_apart hBh.out hBqh.out hsh.out ht3, sep_step hBqh.out hsh.out hN3, liv_turned hBh.out hfr'.out rfl hth.out ht3⟩)
              clear hN3 hB3 ht3
              go_wp2_with fail
              go_roundw
              case rel =>
                have hz : Value.int .i64 ((j : Int) + 1) = .int .i64 ((j + 1 : Nat) : Int) := by go_num
                first
                | (rw [hz]; exact hR'.out)
                | ((repeat apply Exists.intro); exact ⟨by rw [hz]; exact hR'.out, rfl⟩)
              case measure => simp [intOf]; omega
            · have hjn : 80 = j := by omega
              subst hjn
              have hge : ((80 : Nat) : Int) ≤ ((80 : Nat) : Int) := Int.le_refl _
              have hTw : Two w d s o r e2 s2 o2 q wr := ⟨lv, m, X, A, lq, mq, Xq, Aq, hB, hBq, hsep, ht⟩
              have hTw' := Lib.hid hTw
              clear hL hB hBq hsep ht hTw hBh hBqh hsh hth
              go_wp2_with fail
              go_loopw [14] (fun i wr => CopR3 p (80) w d s o r e2 s2 o2 q i wr) (fun i _ => (intOf i + 1).toNat)
              case atStart => exact ⟨80, hpn, Nat.le_refl _, rfl, hTw'.out⟩
              case round =>
                clear hTw'
                obtain ⟨j, hpj, hj, rfl, lv, m, X, A, lq, mq, Xq, Aq, hB, hBq, hsep, ht⟩ := hrel
                have hL := hL'.out.keep ht (fun _ e => e.elim) (Nat.le_refl _)
                have hBh := Lib.hid hB
                have hBqh := Lib.hid hBq
                have hsh := Lib.hid hsep
                have hth := Lib.hid ht
                by_cases hlt : p < j
                · obtain ⟨i, rfl⟩ : ∃ i, j = i + 1 := ⟨j - 1, by omega⟩
                  have hii : (((i + 1 : Nat) : Int)) - 1 = (i : Int) := by omega
                  rw [hii]
                  have hji : (p : Int) ≤ (i : Int) := by omega
                  have hji2 : (i : Int) < ((80 : Nat) : Int) := by omega
                  have hji3 : (i : Int) < (80 : Int) := by omega
                  clear hii
                  obtain ⟨b, off, rfl, hb, hall⟩ := hL.at_ (by omega)
                  have hx := hall i (by omega)
                  have hok := Lib.hid hx.ok
                  obtain ⟨q0, q1, q2, q3, q4, _, _, _, _, _, _⟩ := hx
                  clear hall hL
                  have hstep := Lib.hid (step_any hBqh.out (D i) hok.out (by have := hfw.out i (by omega); omega) hlo2'.out)
                  clear hB hBq hsep ht
                  generalize hop : (D i).op = op at q0
                  generalize hsec : (D i).sec = sec at q1
                  generalize hnum : (D i).num = num at q2
                  generalize hbyt : (D i).byt = byt at q3
                  generalize hF : (D i).F = F at q4
                  generalize hfn : (D i).fn = fn at q4
                  generalize hfc : (D i).fc = fc at q4
                  have hH := Lib.hid (And.intro hop (And.intro hsec (And.intro hnum (And.intro hbyt (And.intro hF (And.intro hfn hfc))))))
                  clear hop hsec hnum hbyt hF hfn hfc
                  go_wp2_with fail
                  have hst := hstep.out
                  rw [hH.out.1, hH.out.2.1, hH.out.2.2.1, hH.out.2.2.2.1, hH.out.2.2.2.2.1, hH.out.2.2.2.2.2.1, hH.out.2.2.2.2.2.2] at hst
                  refine hst.mono ?_
                  clear hst
                  rintro e w3 ⟨rfl, ⟨lv3, m3, X3, hB3, hN3⟩, ht3⟩
                  have hR' := Lib.hid (show CopR3 p (80) w d s o r e2 s2 o2 q (.int .i64 ((i : Int) - 1)) w3 from ⟨i, by omega, by omega, rfl, _, _, _, _, _, _, _, _, both_apart hBqh.out hBh.out (fun k a b => hsh.out k b a) ht3, hB3, (fun k a b => sep_step hBh.out (fun k a b => hsh.out k b a) hN3 k b a), liv_turned hBqh.out hlo2'.out rfl hth.out ht3⟩)
                  clear hN3 hB3 ht3
                  go_wp2_with fail
                  first
                  | exact ⟨hR'.out, by first | (simp [intOf]; done) | (simp [intOf]; omega)⟩
                  | (refine ⟨?_, by first | (simp [intOf]; done) | (simp [intOf]; omega)⟩; (repeat apply Exists.intro); exact ⟨hR'.out, rfl⟩)
                · have hjp : p = j := by omega
                  subst hjp
                  have hge : (p : Int) - 1 < (p : Int) := by omega
                  have hLh := Lib.hid hL
                  clear hL hB hBq hsep ht
                  go_wp2_with fail
                  refine (like_any hBh.out _ _ _ D hLh.out).mono ?_
                  rintro e w3 ⟨rfl, ht3⟩
                  have hB3 := Lib.hid (hBh.out.fresh ht3)
                  have hBq3 := Lib.hid (hBqh.out.fresh ht3)
                  have hL3 := Lib.hid (hLh.out.keep ht3 (fun _ e => e.elim) hth.out.size)
                  have hT3 := Lib.hid (hth.out.trans (W := fun _ => False) ht3 (fun _ e => e) (fun _ e => e.elim))
                  clear ht3 hBh hBqh hLh hth
                  go_wp2_with fail
                  refine (like_any hBq3.out _ _ _ D hL3.out).mono ?_
                  rintro e w4 ⟨rfl, ht4⟩
                  have hD4 := Lib.hid (hB3.out.dsk.fresh ht4)
                  have hT4 := Lib.hid (hT3.out.trans (W := fun _ => False) ht4 (fun _ e => e) (fun _ e => e.elim))
                  clear ht4 hB3 hBq3 hL3 hT3
                  go_wp2_with fail
                  refine (wake_any d s o A none 0 0 [] _ hD4.out ⟨rfl, by omega, by simp, fun h => absurd h (by omega)⟩).mono ?_
                  rintro e w5 ⟨rfl, hD5, ht5⟩
                  have hT5 := Lib.hid (hT4.out.trans (W := fun _ => False) ht5 (fun _ e => e) (fun k e => .inr (hfr'.out k e)))
                  have hD5' := Lib.hid hD5
                  clear hD5 ht5 hT4 hD4
                  go_wp2_with fail
                  refine (read_ok d s o (A.wake []) 0 _ hD5'.out rfl (by omega) (by have := hD5'.out.n1; omega)).mono ?_
                  rintro e w6 ⟨g1, c1, rfl, hr1, hg1, ht6⟩
                  have hD6 := Lib.hid (hD5'.out.fresh ht6)
                  have hT6 := Lib.hid (hT5.out.trans (W := fun _ => False) ht6 (fun _ e => e) (fun _ e => e.elim))
                  have hr1' := Lib.hid hr1
                  have hl1 := hr1.lt
                  have hb1 := Nat.le_trans hT5.out.size hg1
                  clear hr1 ht6 hD5' hT5 hg1
                  go_wp2_with fail
                  refine (read_ok d s o (A.wake []) 0 _ hD6.out rfl (by omega) (by have := hD6.out.n1; omega)).mono ?_
                  rintro e w7 ⟨g2, c2, rfl, hr2, hg2, ht7⟩
                  have hD7 := Lib.hid (hD6.out.fresh ht7)
                  have hT7 := Lib.hid (hT6.out.trans (W := fun _ => False) ht7 (fun _ e => e) (fun _ e => e.elim))
                  have hr17 := Lib.hid (hr1'.out.turned ht7 (fun e => e))
                  have hr2' := Lib.hid hr2
                  have hl2 := hr2.lt
                  have hb2 := Nat.le_trans hT6.out.size hg2
                  have h12 : g1 < g2 := by omega
                  clear hr2 ht7 hD6 hT6 hg2 hr1' hl1
                  go_wp2_with fail
                  refine (turn_bytes 512 g1 c1 _ _ hr17.out (by omega)).mono ?_
                  rintro e w8 ⟨rfl, ⟨ys, hr18⟩, ht8⟩
                  have hD8 := Lib.hid (hD7.out.turned ht8 (fun k hk e => by
                    have e' : k = g1 := e
                    subst e'
                    obtain ⟨cs, hb⟩ := hr17.out.opened
                    exact dsk_u8 hD7.out hb hk))
                  have hT8 := Lib.hid (hT7.out.trans (W := fun _ => False) ht8 (fun _ e => e) (fun k e => .inr (by have e' : k = g1 := e; omega)))
                  have hr28 := Lib.hid (hr2'.out.turned ht8 (fun e => by have e' : g2 = g1 := e; omega))
                  have hr18' := Lib.hid hr18
                  have hl8 := Nat.lt_of_lt_of_le hl2 ht8.size
                  clear hr18 ht8 hD7 hT7 hr17 hr2' hl2
                  go_wp2_with fail
                  refine (read_ok d s o (A.wake []) 0 _ hD8.out rfl (by omega) (by have := hD8.out.n1; omega)).mono ?_
                  rintro e w9 ⟨g3, c3, rfl, hr3, hg3, ht9⟩
                  have hT9 := Lib.hid (hT8.out.trans (W := fun _ => False) ht9 (fun _ e => e) (fun _ e => e.elim))
                  have hr19 := Lib.hid (hr18'.out.turned ht9 (fun e => e))
                  have hr29 := Lib.hid (hr28.out.turned ht9 (fun e => e))
                  have hr3' := Lib.hid hr3
                  have hb3 := Nat.le_trans hT8.out.size hg3
                  have h23 : g2 < g3 := by omega
                  clear hr3 ht9 hD8 hT8 hr18' hr28 hl8 hg3
                  go_wp2_with fail
                  refine (same_yes _ _ _ _ _ _ _ _ _ (hr29.out.bytS c2).toBytR (hr3'.out.bytS c3).toBytR rfl).mono ?_
                  rintro e w10 ⟨rfl, nq, rfl⟩
                  go_wp2_with fail
                  have hTa : ∀ v, Turned (fun _ => False) w9 ((w9.drewN nq).alloc v) := fun v => ((Turned.refl _ w9).drewN nq).alloc v
                  refine (apartBytes_any w9.heap.size 0 3 3 (fun k => if k = 0 then some ⟨g1, 0, none⟩ else if k = 1 then some ⟨g2, 0, none⟩ else some ⟨g3, 0, none⟩) (fun _ => 512) (fun k => if k = 0 then c1 else if k = 1 then c2 else c3) (fun k => if k = 0 then ys else (A.wake []).lat 0) _ (fun k hk => ?_) (fun k hk => ?_) (fun j k hj hk hne g e e2 => ?_) (by omega) (by omega) (fun _ _ => by omega)).mono ?_
                  · rw [(Blk.new_at (k := w9.heap.size) _ _ _ (by simp)).cell]
                    match k, hk with
                    | 0, _ => rfl
                    | 1, _ => rfl
                    | 2, _ => rfl
                  · match k, hk with
                    | 0, _ => exact OwnV.of_row (hr19.out.turned (hTa _) (fun e => e))
                    | 1, _ => exact OwnV.of_row (hr29.out.turned (hTa _) (fun e => e))
                    | 2, _ => exact OwnV.of_row (hr3'.out.turned (hTa _) (fun e => e))
                  · have key : ∀ k, k < 3 → (if k = 0 then some (⟨g1, 0, none⟩ : Addr) else if k = 1 then some ⟨g2, 0, none⟩ else some ⟨g3, 0, none⟩) = some ⟨if k = 0 then g1 else if k = 1 then g2 else g3, 0, none⟩ := fun k hk => by
                      match k, hk with
                      | 0, _ => rfl
                      | 1, _ => rfl
                      | 2, _ => rfl
                    rw [key j hj] at e
                    rw [key k hk] at e2
                    injection e with e
                    injection e with e
                    injection e2 with e2
                    injection e2 with e2
                    match j, hj, k, hk with
                    | 0, _, 0, _ => exact hne rfl
                    | 0, _, 1, _ => simp at e e2; omega
                    | 0, _, 2, _ => simp at e e2; omega
                    | 1, _, 0, _ => simp at e e2; omega
                    | 1, _, 1, _ => exact hne rfl
                    | 1, _, 2, _ => simp at e e2; omega
                    | 2, _, 0, _ => simp at e e2; omega
                    | 2, _, 1, _ => simp at e e2; omega
                    | 2, _, 2, _ => exact hne rfl
                  rintro e w11 ⟨rfl, ht11⟩
                  have hT11 : Turned (fun _ => False) w w11 := (hT9.out.trans (W := fun _ => False) (hTa _) (fun _ e => e) (fun _ e => e.elim)).trans ht11 (fun _ e => e) (fun g ⟨k, hk, e⟩ => .inr (by
                    match k, hk with
                    | 0, _ => simp at e; omega
                    | 1, _ => simp at e; omega
                    | 2, _ => simp at e; omega))
                  have hT11' := Lib.hid hT11
                  clear ht11 hT11 hTa
                  go_wp2_with fail
                  refine (awake_any _).mono ?_
                  rintro e w12 ⟨rfl, ht12⟩
                  go_wp2_with fail
                  go_ret
                  exact ⟨rfl, hT11'.out.trans (W := fun _ => False) ht12 (fun _ e => e) (fun _ e => e.elim)⟩

set_option maxRecDepth 100000 in
set_option maxHeartbeats 2000000 in
theorem diskCopies_few_no (sectors : Int) (L : Option Addr) (n c : Nat) (D : Nat → DoV) (at_ : Int) (w : World) (hL : DosR w w.heap.size L n D) (hnc : n ≤ c) (hcm : c ≤ maxLen) (hn : n ≤ 80) (hs : sectors < 1 ∨ 8192 < sectors) :
    Calls Tryz.prog 3 #[.int .i64 sectors, .slice L n c, .int .i64 at_] w (OkNew w) := by
  unfold maxLen at hcm
  clear hL
  have hni : (n : Int) ≤ 80 := by omega
  go_enter Tryz.func3, Tryz.ntmps3
  go_wp2_with fail
  refine (new_no sectors _ (by omega)).mono ?_
  rintro e w1 ⟨rfl, rfl⟩
  go_wp2_with fail
  refine (rnew_no sectors _ (by omega)).mono ?_
  rintro e w1 ⟨rfl, rfl⟩
  go_wp2_with fail
  refine (awake_any _).mono ?_
  rintro e w3 ⟨rfl, ht3⟩
  go_wp2_with fail
  go_ret
  exact ⟨rfl, ht3⟩

set_option maxRecDepth 100000 in
set_option maxHeartbeats 2000000 in
theorem diskCopies_many_no (sectors : Int) (L : Option Addr) (n c : Nat) (D : Nat → DoV) (at_ : Int) (w : World) (hL : DosR w w.heap.size L n D) (hnc : n ≤ c) (hcm : c ≤ maxLen) (hn : 80 < n) (hs : sectors < 1 ∨ 8192 < sectors) :
    Calls Tryz.prog 3 #[.int .i64 sectors, .slice L n c, .int .i64 at_] w (OkNew w) := by
  unfold maxLen at hcm
  clear hL
  have hni : (80 : Int) < (n : Int) := by omega
  have hci : (80 : Int) ≤ (c : Int) := by omega
  go_enter Tryz.func3, Tryz.ntmps3
  go_wp2_with fail
  refine (new_no sectors _ (by omega)).mono ?_
  rintro e w1 ⟨rfl, rfl⟩
  go_wp2_with fail
  refine (rnew_no sectors _ (by omega)).mono ?_
  rintro e w1 ⟨rfl, rfl⟩
  go_wp2_with fail
  refine (awake_any _).mono ?_
  rintro e w3 ⟨rfl, ht3⟩
  go_wp2_with fail
  go_ret
  exact ⟨rfl, ht3⟩

theorem diskCopies_any (sectors : Int) (L : Option Addr) (n c : Nat) (D : Nat → DoV) (at_ : Int) (w : World) (hL : DosR w w.heap.size L n D) (hnc : n ≤ c) (hcm : c ≤ maxLen) (hat : -9223372036854775808 ≤ at_ ∧ at_ ≤ 9223372036854775807) :
    Calls Tryz.prog 3 #[.int .i64 sectors, .slice L n c, .int .i64 at_] w (OkNew w) := by
  by_cases hs : 1 ≤ sectors ∧ sectors ≤ 8192
  · by_cases hn : n ≤ 80
    · exact diskCopies_few sectors L n c D at_ w hL hnc hcm hn hs hat
    · exact diskCopies_many sectors L n c D at_ w hL hnc hcm (by omega) hs hat
  · by_cases hn : n ≤ 80
    · exact diskCopies_few_no sectors L n c D at_ w hL hnc hcm hn (by omega)
    · exact diskCopies_many_no sectors L n c D at_ w hL hnc hcm (by omega) (by omega)

end Go.Proofs.YtmblonmpiomjgaaGreat
