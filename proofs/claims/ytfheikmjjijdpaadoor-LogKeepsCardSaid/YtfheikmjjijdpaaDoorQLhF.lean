/-
  log.Force in a log of many sheets, the disk crashing at any write or at the sync. Conditions: a disk that is up, apart from the log; the Lsns rise; what is not safe has a Lsn.
-/
import Derived.Test.YtfheikmjjijdpaaDoorQLhV
namespace Go.Proofs.YtfheikmjjijdpaaDoor
open Go.RowKit Go.Maps Go.Proofs
set_option linter.unusedVariables false
set_option linter.unusedSimpArgs false

/-- A sheet behind a write, and behind a Force. -/
def ShM.wr (s : ShM) (turn : Int) : ShM := if s.safe = (s.body.length : Int) then s else { s with tn := turn }
def ShM.sf (s : ShM) : ShM := { s with safe := (s.body.length : Int), lost := false }
theorem ShM.wr_g (s : ShM) (t : Int) : (s.wr t).g = s.g := by unfold ShM.wr; split <;> rfl
theorem ShM.wr_gb (s : ShM) (t : Int) : (s.wr t).gb = s.gb := by unfold ShM.wr; split <;> rfl
theorem ShM.wr_num (s : ShM) (t : Int) : (s.wr t).num = s.num := by unfold ShM.wr; split <;> rfl
theorem ShM.wr_body (s : ShM) (t : Int) : (s.wr t).body = s.body := by unfold ShM.wr; split <;> rfl
/-- The disk behind the writes of these sheets. -/
def wrD (X : LgM) (A : DA) : List ShM → DA
  | [] => A
  | s :: t => wrD X (if s.safe = (s.body.length : Int) then A else A.write (X.first + s.num % X.count) (shtL s.num X.turn s.bef s.body)) t
theorem wrD_append (X : LgM) : ∀ (l : List ShM) (A : DA) (r : List ShM), wrD X A (l ++ r) = wrD X (wrD X A l) r
  | [], _, _ => rfl
  | s :: t, A, r => by rw [List.cons_append, wrD, wrD, wrD_append X t]
theorem wrD_n (X : LgM) : ∀ (l : List ShM) (A : DA), (wrD X A l).n = A.n ∧ (wrD X A l).saf = A.saf
  | [], _ => ⟨rfl, rfl⟩
  | s :: t, A => by
    rw [wrD]
    have := wrD_n X t (if s.safe = (s.body.length : Int) then A else A.write (X.first + s.num % X.count) (shtL s.num X.turn s.bef s.body))
    rw [this.1, this.2]
    split <;> exact ⟨rfl, rfl⟩
/-- One sheet turns, the others stand. -/
theorem LogM.setS {w w' : World} {X : LgM} {a b : List ShM} {s s' : ShM} {W : Nat → Prop} (h : LogM w X) (e : X.shs = a ++ s :: b) (ht : Turned W w w') (hW : ∀ i, X.own i → W i → i = s.g) (hs' : s'.Is w') (hg : s'.g = s.g) (hgb : s'.gb = s.gb) (hn : s'.num = s.num) (hb : s'.body.length ≤ 496) :
    LogM w' { X with shs := a ++ s' :: b } ∧ ∀ i, ({ X with shs := a ++ s' :: b } : LgM).own i → X.own i := by
  have hms : s ∈ X.shs := by rw [e]; simp
  have hG := h.gLS hms
  have hab : ∀ t ∈ a ++ b, t ∈ X.shs := fun t ht => by rw [e]; rcases List.mem_append.1 ht with ht | ht; exact List.mem_append_left _ ht; exact List.mem_append_right _ (List.mem_cons_of_mem _ ht)
  have hgs := h.gs
  have hgbs := h.gbs
  have el : (a ++ s' :: b).length = X.shs.length := by rw [e]; simp
  have eg : (a ++ s' :: b).map ShM.g = X.shs.map ShM.g := by rw [e]; simp [hg]
  have egb : (a ++ s' :: b).map ShM.gb = X.shs.map ShM.gb := by rw [e]; simp [hgb]
  have ep : (a ++ s' :: b).map ShM.ptr = X.shs.map ShM.ptr := by rw [e]; simp [ShM.ptr, hg]
  have hne : ∀ t ∈ a ++ b, t.g ≠ s.g := fun t ht e2 => by
    rw [e, List.map_append, List.map_cons, List.nodup_append] at hgs
    obtain ⟨h1, h2, h3⟩ := hgs
    rcases List.mem_append.1 ht with ht | ht
    · exact h3 t.g (List.mem_map_of_mem ht) s.g (by simp) e2
    · exact (List.nodup_cons.1 h2).1 (e2 ▸ List.mem_map_of_mem ht)
  have hI : ∀ t ∈ a ++ b, t.Is w' := fun t ht2 => (h.sht t (hab t ht2)).turned ht (fun q => hne t ht2 (hW _ (.inr (.inr (.inr ⟨t, hab t ht2, .inl rfl⟩))) q)) (fun q => hG.2.2.2.2.2 t (hab t ht2) (hW _ (.inr (.inr (.inr ⟨t, hab t ht2, .inr rfl⟩))) q).symm)
  have hmem : ∀ {P : ShM → Prop}, (∀ t ∈ a ++ b, P t) → P s' → ∀ t ∈ a ++ s' :: b, P t := fun h1 h2 t ht => by
    rcases List.mem_append.1 ht with ht | ht
    · exact h1 t (List.mem_append_left _ ht)
    · rcases List.mem_cons.1 ht with rfl | ht
      · exact h2
      · exact h1 t (List.mem_append_right _ ht)
  refine ⟨⟨?_, ?_, h.lsn.turned ht (fun g o e2 q => (hG.2.2.2.2.1 g o e2).1 (hW _ (.inr (.inr (.inl ⟨o, e2⟩))) q)), hmem hI hs', ?_, ?_, h.cB, ?_, hmem (fun t ht => h.nB t (hab t ht)) (by rw [hn]; exact h.nB s hms), hmem (fun t ht => h.hB t (hab t ht)) hb, h.lB⟩, fun i hi => ?_⟩
  · show Blk w' X.L _ (logC X.d X.first X.count X.turn X.oldest (some ⟨X.S, X.So, none⟩) (a ++ s' :: b).length X.cS X.Al X.ls.length X.cl)
    rw [el]; exact h.blk.turned ht (fun q => hG.1 (hW _ (.inl rfl) q).symm)
  · show RowO w' _ 1 X.S X.So (a ++ s' :: b).length X.cS ((a ++ s' :: b).map ShM.ptr)
    rw [el, ep]; exact h.row.turned ht (fun q => hG.2.1 (hW _ (.inr (.inl rfl)) q).symm)
  · show ((a ++ s' :: b).map ShM.g).Nodup
    rw [eg]; exact h.gs
  · show ((a ++ s' :: b).map ShM.gb).Nodup
    rw [egb]; exact h.gbs
  · show (a ++ s' :: b).length ≤ 10000
    rw [el]; exact h.kB
  · rcases hi with q | q | q | ⟨t, ht2, q⟩
    · exact .inl q
    · exact .inr (.inl q)
    · exact .inr (.inr (.inl q))
    · rcases List.mem_append.1 ht2 with ht2 | ht2
      · exact .inr (.inr (.inr ⟨t, hab t (List.mem_append_left _ ht2), q⟩))
      · rcases List.mem_cons.1 ht2 with rfl | ht2
        · rw [hg, hgb] at q; exact .inr (.inr (.inr ⟨s, hms, q⟩))
        · exact .inr (.inr (.inr ⟨t, hab t (List.mem_append_right _ ht2), q⟩))
theorem LogM.wrS {w : World} {X : LgM} {s : ShM} (h : LogM w X) (hs : s ∈ X.shs) : WrS w X s := ⟨h.blk, h.sht s hs⟩
/-- What every write of a Force wants. -/
structure WrOk (X : LgM) (ms mo : Nat) (A : DA) : Prop where
  dB : ∀ i, dskW X.d ms mo i → ¬ X.own i
  dirty : ∀ s ∈ X.shs, s.safe ≠ (s.body.length : Int) → 0 < s.body.length
  clean : ∀ s ∈ X.shs, s.safe = (s.body.length : Int) → s.lost = false
  byt : ∀ s ∈ X.shs, ∀ z ∈ s.body, isByte z
  f0 : 0 ≤ X.first
  fs : X.first + X.count ≤ A.n
def f1X (X : LgM) (j : Nat) : LgM := { X with shs := (X.shs.take j).map (fun s => s.wr X.turn) ++ X.shs.drop j }
def ownD (X : LgM) (ms mo : Nat) (i : Nat) : Prop := X.own i ∨ dskW X.d ms mo i
structure F1Done (X : LgM) (ms mo : Nat) (A : DA) (w w' : World) : Prop where
  disk : IsDisk w' X.d ms mo (wrD X A X.shs)
  up : (wrD X A X.shs).down = false
  log : LogM w' { X with shs := X.shs.map (fun s => s.wr X.turn) }
  turned : Turned (ownD X ms mo) w w'
theorem wr_armed0 (X : LgM) : ∀ (l : List ShM) (A : DA), A.armed = 0 → (wrD X A l).armed = 0
  | [], _, h => h
  | s :: t, A, h => by
    refine wr_armed0 X t _ ?_
    split
    · exact h
    · show tickA A.armed = 0; rw [h]; rfl
structure F1Down (X : LgM) (ms mo : Nat) (A : DA) (w w' : World) : Prop where
  arm : A.armed ≠ 0
  disk : ∃ m A', m ≤ X.shs.length ∧ IsDisk w' X.d ms mo A' ∧ A'.down = true ∧ A'.lat = (wrD X A (X.shs.take m)).lat ∧ A'.opn = (wrD X A (X.shs.take m)).opn ∧ A'.saf = A.saf ∧ A'.n = A.n
  turned : Turned (ownD X ms mo) w w'
def HF1 (X : LgM) (ms mo : Nat) (A : DA) (w : World) (e : Ending) (w' : World) : Prop := (e = .returned (.int .i64 0) ∧ F1Done X ms mo A w w') ∨ (e = .returned (.int .i64 8) ∧ F1Down X ms mo A w w')
structure F1Rel (X : LgM) (ms mo : Nat) (A : DA) (w : World) (j : Nat) (wr : World) : Prop where
  le : j ≤ X.shs.length
  disk : IsDisk wr X.d ms mo (wrD X A (X.shs.take j))
  up : (wrD X A (X.shs.take j)).down = false
  log : LogM wr (f1X X j)
  turned : Turned (ownD X ms mo) w wr
theorem f1X_own {w : World} {X : LgM} {j : Nat} {i : Nat} (h : (f1X X j).own i) : X.own i := by
  rcases h with q | q | q | ⟨t, ht, q⟩
  · exact .inl q
  · exact .inr (.inl q)
  · exact .inr (.inr (.inl q))
  · refine .inr (.inr (.inr ?_))
    rcases List.mem_append.1 (show t ∈ (X.shs.take j).map (fun s => s.wr X.turn) ++ X.shs.drop j from ht) with ht | ht
    · obtain ⟨s, hs, rfl⟩ := List.mem_map.1 ht
      rw [ShM.wr_g, ShM.wr_gb] at q
      exact ⟨s, List.mem_of_mem_take hs, q⟩
    · exact ⟨t, List.mem_of_mem_drop ht, q⟩
theorem f1X_zero (X : LgM) : f1X X 0 = X := by unfold f1X; simp
/-- A round of the writes: what a sheet's write leaves. -/
theorem f1_step {w wr w' : World} {X : LgM} {ms mo j : Nat} {A : DA} {s : ShM} (h : F1Rel X ms mo A w j wr) (hj : X.shs[j]? = some s) (hO : WrOk X ms mo A) (hd : s.safe ≠ (s.body.length : Int)) (hw : IsDisk w' X.d ms mo ((wrD X A (X.shs.take j)).write (X.first + s.num % X.count) (shtL s.num X.turn s.bef s.body))) (hS : WrS w' (f1X X j) { s with tn := X.turn }) (ht : Turned (fun i => i = s.g ∨ dskW X.d ms mo i) wr w') :
    wrD X A (X.shs.take (j + 1)) = (wrD X A (X.shs.take j)).write (X.first + s.num % X.count) (shtL s.num X.turn s.bef s.body) ∧ LogM w' (f1X X (j + 1)) ∧ Turned (ownD X ms mo) w w' := by
  have hlt := (List.getElem?_eq_some_iff.1 hj).1
  have hms : s ∈ X.shs := List.mem_of_getElem? hj
  have htk : X.shs.take (j + 1) = X.shs.take j ++ [s] := by rw [List.take_add_one, hj]; rfl
  have hdr : X.shs.drop j = s :: X.shs.drop (j + 1) := by rw [List.drop_eq_getElem_cons hlt]; congr 1; rw [List.getElem?_eq_getElem hlt] at hj; injection hj
  have hwr : s.wr X.turn = { s with tn := X.turn } := by unfold ShM.wr; rw [if_neg hd]
  have e1 : (f1X X j).shs = (X.shs.take j).map (fun s => s.wr X.turn) ++ s :: X.shs.drop (j + 1) := by show _ ++ X.shs.drop j = _; rw [hdr]
  have e2 : f1X X (j + 1) = { f1X X j with shs := (X.shs.take j).map (fun s => s.wr X.turn) ++ (s.wr X.turn) :: X.shs.drop (j + 1) } := by unfold f1X; rw [htk, List.map_append]; simp
  refine ⟨by rw [htk, wrD_append]; show (if _ then _ else _) = _; rw [if_neg hd], ?_, h.turned.trans ht (fun _ e => e) (fun i e => .inl (e.elim (fun e => .inl (.inr (.inr (.inr ⟨s, hms, .inl e⟩)))) (fun e => .inr e)))⟩
  rw [e2]
  exact (h.log.setS e1 ht (fun i hi e => e.elim (fun e => e) (fun e => absurd (f1X_own (w := w) hi) (hO.dB i e))) (by rw [hwr]; exact hS.sht) (by rw [ShM.wr_g]) (by rw [ShM.wr_gb]) (by rw [ShM.wr_num]) (by rw [ShM.wr_body]; exact h.log.hB s (by rw [e1]; simp))).1
theorem f1_skip {w wr w' : World} {X : LgM} {ms mo j : Nat} {A : DA} {s : ShM} (h : F1Rel X ms mo A w j wr) (hj : X.shs[j]? = some s) (hd : s.safe = (s.body.length : Int)) (ht : Turned (fun _ => False) wr w') : F1Rel X ms mo A w (j + 1) w' := by
  have hlt := (List.getElem?_eq_some_iff.1 hj).1
  have htk : X.shs.take (j + 1) = X.shs.take j ++ [s] := by rw [List.take_add_one, hj]; rfl
  have hdr : X.shs.drop j = s :: X.shs.drop (j + 1) := by rw [List.drop_eq_getElem_cons hlt]; congr 1; rw [List.getElem?_eq_getElem hlt] at hj; injection hj
  have hwr : s.wr X.turn = s := by unfold ShM.wr; rw [if_pos hd]
  have e2 : f1X X (j + 1) = f1X X j := by unfold f1X; rw [htk, List.map_append, hdr]; simp [hwr]
  have e3 : wrD X A (X.shs.take (j + 1)) = wrD X A (X.shs.take j) := by rw [htk, wrD_append]; show (if _ then _ else _) = _; rw [if_pos hd]
  exact ⟨hlt, by rw [e3]; exact h.disk.fresh ht, by rw [e3]; exact h.up, by rw [e2]; exact h.log.fresh ht, h.turned.trans ht (fun _ e => e) (fun _ e => e.elim)⟩
set_option maxRecDepth 100000 in
set_option maxHeartbeats 2000000 in
theorem hforce1_any (ms mo bl : Nat) (X : LgM) (A : DA) (w : World) (h : LogM w X) (hbl : w.cell? ⟨bl, 0, none⟩ = some (.pointer (some ⟨X.L, 0, none⟩))) (hD : IsDisk w X.d ms mo A) (hdn : A.down = false) (hO : WrOk X ms mo A) (hblf : ¬ ownD X ms mo bl) :
    Calls Tryd.prog 45 #[.pointer (some ⟨bl, 0, none⟩)] w (HF1 X ms mo A w) := by
  have hst := Lib.hid (show F1Rel X ms mo A w 0 w from ⟨Nat.zero_le _, hD, hdn, (f1X_zero X).symm ▸ h, Turned.refl _ _⟩)
  have HO := Lib.hid hO
  have HBL := Lib.hid (fun (w' : World) (t : Turned (ownD X ms mo) w w') => cell_turned t hbl hblf)
  have hkB := h.kB
  obtain ⟨n, hn⟩ : ∃ n, n = X.shs.length := ⟨_, rfl⟩
  have HN := Lib.hid hn
  rw [← hn] at hkB
  have hni : (n : Int) ≤ 10000 := by omega
  have x5 : w.cell? ⟨X.L, 5, none⟩ = some (.slice (some ⟨X.S, X.So, none⟩) n X.cS) := by rw [hn]; exact h.blk.cell 5
  clear h hD hdn hO hn
  go_enter Tryd.func45, Tryd.ntmps45
  go_wp2_with fail
  clear x5 hbl
  go_loopw [3, 4, 10] (fun _ _ i wr => ∃ j : Nat, i = .int .i64 j ∧ F1Rel X ms mo A w j wr) (fun _ _ i _ => n - (intOf i).toNat)
  case atStart => exact ⟨0, rfl, hst.out⟩
  case round =>
    obtain ⟨j, rfl, hR⟩ := hrel
    have HR := Lib.hid hR
    have hjn : j ≤ n := by rw [HN.out]; exact hR.le
    clear hst
    by_cases hlt : j < n
    · obtain ⟨s, hs⟩ : ∃ s, X.shs[j]? = some s := ⟨_, List.getElem?_eq_getElem (by rw [← HN.out]; exact hlt)⟩
      have hms : s ∈ X.shs := List.mem_of_getElem? hs
      have hji : (j : Int) < (n : Int) := by omega
      have hdr : s ∈ (f1X X j).shs := List.mem_append_right _ (by rw [List.drop_eq_getElem_cons (by rw [← HN.out]; exact hlt)]; rw [List.getElem?_eq_getElem (by rw [← HN.out]; exact hlt)] at hs; injection hs with hs; rw [hs]; exact List.mem_cons_self ..)
      have hlen : (f1X X j).shs.length = n := by unfold f1X; simp; rw [← HN.out]; omega
      have xs : wr.cell? ⟨X.S, X.So + j, none⟩ = some (.pointer (some ⟨s.g, 0, none⟩)) := hR.log.row.cell (i := j) (v := s.ptr) (by show ((_ ++ _ : List ShM).map ShM.ptr)[j]? = _; rw [List.getElem?_map, List.getElem?_append_right (by simp; omega)]; simp only [List.length_map, List.length_take]; rw [Nat.min_eq_left (by rw [← HN.out]; exact hjn), Nat.sub_self, List.getElem?_drop, Nat.add_zero, hs]; rfl)
      have xb : wr.cell? ⟨bl, 0, none⟩ = some (.pointer (some ⟨X.L, 0, none⟩)) := HBL.out _ hR.turned
      have HS := Lib.hid hs
      by_cases hd : s.safe = (s.body.length : Int)
      · have hw := hwrite_no (f1X X j) s wr (hR.log.wrS hdr) hd (HO.out.clean s hms hd)
        have HD := Lib.hid hd
        clear hR hs hms hdr hlen hd
        go_wp2_with fail
        refine hw.mono ?_
        clear hw
        rintro e w2 ⟨rfl, t2⟩
        have H2 := Lib.hid (f1_skip HR.out HS.out HD.out t2)
        clear t2 xs xb
        go_wp2_with fail
        go_roundw
        case rel =>
          first
          | exact ⟨j + 1, by go_num, H2.out⟩
          | ((repeat apply Exists.intro); exact ⟨⟨j + 1, by go_num, H2.out⟩, rfl⟩)
        case measure => simp [intOf] <;> omega
      · have hw := hwrite_yes ms mo (f1X X j) s (wrD X A (X.shs.take j)) wr (hR.log.wrS hdr) hR.disk hR.up (fun i hi => ⟨fun e => HO.out.dB i hi (.inl e), fun e => HO.out.dB i hi (.inr (.inr (.inr ⟨s, hms, .inl e⟩))), fun e => HO.out.dB i hi (.inr (.inr (.inr ⟨s, hms, .inr e⟩)))⟩) hd (HO.out.dirty s hms hd) (hR.log.hB s hdr) (HO.out.byt s hms) HO.out.f0 (by rw [(wrD_n X _ A).1]; exact HO.out.fs) hR.log.cB (hR.log.nB s hdr)
        have HD := Lib.hid hd
        clear hR hs hms hdr hlen hd
        go_wp2_with fail
        refine hw.mono ?_
        clear hw
        rintro e w2 ⟨rfl, d2, l2, t2⟩
        have hstep := f1_step HR.out HS.out HO.out HD.out d2 l2 t2
        have hdw : (wrD X A (X.shs.take (j + 1))).down = tickD (wrD X A (X.shs.take j)).armed := by rw [hstep.1]; rfl
        have HST := Lib.hid hstep
        have HDW := Lib.hid hdw
        have D2 := Lib.hid d2
        clear d2 l2 t2 xs xb hstep hdw
        unfold codeOf
        obtain ⟨tk, htk⟩ : ∃ tk, tk = tickD (wrD X A (X.shs.take j)).armed := ⟨_, rfl⟩
        rw [← htk] at HDW ⊢
        clear htk
        cases tk with
        | false =>
          have H2 := Lib.hid (show F1Rel X ms mo A w (j + 1) w2 from ⟨by rw [← HN.out]; omega, by rw [HST.out.1]; exact D2.out, HDW.out, HST.out.2.1, HST.out.2.2⟩)
          rw [if_neg (by simp)]
          clear HST HDW D2 HR
          go_wp2_with fail
          go_roundw
          case rel =>
            first
            | exact ⟨j + 1, by go_num, H2.out⟩
            | ((repeat apply Exists.intro); exact ⟨⟨j + 1, by go_num, H2.out⟩, rfl⟩)
          case measure => simp [intOf] <;> omega
        | true =>
          have H2 := Lib.hid (show F1Down X ms mo A w w2 from ⟨fun h0 => by have h1 := wr_armed0 X (X.shs.take j) A h0; have h2 := HDW.out; rw [HST.out.1] at h2; have h3 : tickD (wrD X A (X.shs.take j)).armed = true := h2; rw [h1] at h3; exact absurd h3 (by decide), ⟨j + 1, wrD X A (X.shs.take (j + 1)), by rw [← HN.out]; omega, by rw [HST.out.1]; exact D2.out, HDW.out, rfl, rfl, (wrD_n X _ A).2, (wrD_n X _ A).1⟩, HST.out.2.2⟩)
          rw [if_pos rfl]
          clear HST HDW D2 HR
          go_wp2_with fail
          go_ret
          exact .inr ⟨rfl, H2.out⟩
    · obtain rfl : j = n := by omega
      have hji : ¬ (j : Int) < (j : Int) := by omega
      have H2 := Lib.hid (show F1Done X ms mo A w wr from by
        have e1 : X.shs.take j = X.shs := List.take_of_length_le (by rw [← HN.out]; exact Nat.le_refl _)
        have e2 : f1X X j = { X with shs := X.shs.map (fun s => s.wr X.turn) } := by unfold f1X; rw [e1, List.drop_of_length_le (by rw [← HN.out]; exact Nat.le_refl _), List.append_nil]
        have h1 := hR.disk; have h2 := hR.up; have h3 := hR.log
        rw [e1] at h1 h2; rw [e2] at h3
        exact ⟨h1, h2, h3, hR.turned⟩)
      clear hR HR
      go_wp2_with fail
      go_ret
      exact .inl ⟨rfl, H2.out⟩
theorem ShM.sf_is {w : World} {s : ShM} (h : s.Is w) : s.sf.Is ((w.setCell ⟨s.g, 5, none⟩ (.int .i64 (s.body.length : Int))).setCell ⟨s.g, 6, none⟩ (.bool false)) ∧ Turned (fun i => i = s.g) w ((w.setCell ⟨s.g, 5, none⟩ (.int .i64 (s.body.length : Int))).setCell ⟨s.g, 6, none⟩ (.bool false)) := by
  have ts := ((Turned.refl (fun i => i = s.g) w).setCell (p := ⟨s.g, 5, none⟩) (.inl rfl) (.int .i64 (s.body.length : Int))).setCell (p := ⟨s.g, 6, none⟩) (.inl rfl) (.bool false)
  have hset := (h.blk.set_ 5 (.int .i64 (s.body.length : Int))).set_ 6 (.bool false)
  rw [shtC_set56] at hset
  obtain ⟨cb, hb, _⟩ := h.bod.row
  refine ⟨⟨hset, h.bod.turned ts (fun e => ?_)⟩, ts⟩
  rw [e] at hb; exact absurd (Blk.inj hb h.blk).2 (by decide)
def f2X (X : LgM) (j : Nat) : LgM := { X with shs := (X.shs.take j).map ShM.sf ++ X.shs.drop j }
theorem f2X_zero (X : LgM) : f2X X 0 = X := by unfold f2X; simp
theorem f2_step {w wr : World} {X : LgM} {j : Nat} {s : ShM} (h : LogM wr (f2X X j)) (hT : Turned X.own w wr) (hj : X.shs[j]? = some s) :
    LogM ((wr.setCell ⟨s.g, 5, none⟩ (.int .i64 (s.body.length : Int))).setCell ⟨s.g, 6, none⟩ (.bool false)) (f2X X (j + 1)) ∧ Turned X.own w ((wr.setCell ⟨s.g, 5, none⟩ (.int .i64 (s.body.length : Int))).setCell ⟨s.g, 6, none⟩ (.bool false)) := by
  have hlt := (List.getElem?_eq_some_iff.1 hj).1
  have hms : s ∈ X.shs := List.mem_of_getElem? hj
  have htk : X.shs.take (j + 1) = X.shs.take j ++ [s] := by rw [List.take_add_one, hj]; rfl
  have hdr : X.shs.drop j = s :: X.shs.drop (j + 1) := by rw [List.drop_eq_getElem_cons hlt]; congr 1; rw [List.getElem?_eq_getElem hlt] at hj; injection hj
  have e1 : (f2X X j).shs = (X.shs.take j).map ShM.sf ++ s :: X.shs.drop (j + 1) := by show _ ++ X.shs.drop j = _; rw [hdr]
  have e2 : f2X X (j + 1) = { f2X X j with shs := (X.shs.take j).map ShM.sf ++ s.sf :: X.shs.drop (j + 1) } := by unfold f2X; rw [htk, List.map_append]; simp
  have hs := h.sht s (by rw [e1]; simp)
  have hset := ShM.sf_is hs
  refine ⟨?_, hT.trans hset.2 (fun _ e => e) (fun i e => .inl (.inr (.inr (.inr ⟨s, hms, .inl e⟩))))⟩
  rw [e2]
  exact (h.setS e1 hset.2 (fun i _ e => e) hset.1 rfl rfl rfl (h.hB s (by rw [e1]; simp))).1
def F2Rel (X : LgM) (w : World) (j : Nat) (wr : World) : Prop := j ≤ X.shs.length ∧ LogM wr (f2X X j) ∧ Turned X.own w wr
def HF2 (X : LgM) (w : World) (e : Ending) (w' : World) : Prop := e = .returned (.int .i64 0) ∧ LogM w' { X with shs := X.shs.map ShM.sf } ∧ Turned X.own w w'
set_option maxRecDepth 100000 in
set_option maxHeartbeats 2000000 in
theorem hforce2_any (bl : Nat) (X : LgM) (w : World) (h : LogM w X) (hbl : w.cell? ⟨bl, 0, none⟩ = some (.pointer (some ⟨X.L, 0, none⟩))) :
    Calls Tryd.prog 48 #[.pointer (some ⟨bl, 0, none⟩)] w (HF2 X w) := by
  have hst := Lib.hid (show F2Rel X w 0 w from ⟨Nat.zero_le _, (f2X_zero X).symm ▸ h, Turned.refl _ _⟩)
  have hkB := h.kB
  obtain ⟨n, hn⟩ : ∃ n, n = X.shs.length := ⟨_, rfl⟩
  have HN := Lib.hid hn
  rw [← hn] at hkB
  have hni : (n : Int) ≤ 10000 := by omega
  have x5 : w.cell? ⟨X.L, 5, none⟩ = some (.slice (some ⟨X.S, X.So, none⟩) n X.cS) := by rw [hn]; exact h.blk.cell 5
  clear h hn
  go_enter Tryd.func48, Tryd.ntmps48
  go_wp2_with fail
  clear x5 hbl
  go_loopw [3, 9] (fun _ i wr => ∃ j : Nat, i = .int .i64 j ∧ F2Rel X w j wr) (fun _ i _ => n - (intOf i).toNat)
  case atStart => exact ⟨0, rfl, hst.out⟩
  case round =>
    obtain ⟨j, rfl, hle, hL, hT⟩ := hrel
    have HR := Lib.hid (And.intro hL hT)
    have hjn : j ≤ n := by rw [HN.out]; exact hle
    clear hst hle hT
    by_cases hlt : j < n
    · obtain ⟨s, hs⟩ : ∃ s, X.shs[j]? = some s := ⟨_, List.getElem?_eq_getElem (by rw [← HN.out]; exact hlt)⟩
      have hji : (j : Int) < (n : Int) := by omega
      have hdr : s ∈ (f2X X j).shs := List.mem_append_right _ (by rw [List.drop_eq_getElem_cons (by rw [← HN.out]; exact hlt)]; rw [List.getElem?_eq_getElem (by rw [← HN.out]; exact hlt)] at hs; injection hs with hs; rw [hs]; exact List.mem_cons_self ..)
      have xs : wr.cell? ⟨X.S, X.So + j, none⟩ = some (.pointer (some ⟨s.g, 0, none⟩)) := hL.row.cell (i := j) (v := s.ptr) (by show ((_ ++ _ : List ShM).map ShM.ptr)[j]? = _; rw [List.getElem?_map, List.getElem?_append_right (by simp; omega)]; simp only [List.length_map, List.length_take]; rw [Nat.min_eq_left (by rw [← HN.out]; exact hjn), Nat.sub_self, List.getElem?_drop, Nat.add_zero, hs]; rfl)
      have hI := hL.sht s hdr
      have hst := f2_step hL HR.out.2 hs
      have x4 : wr.cell? ⟨s.g, 4, none⟩ = some (.slice (some ⟨s.gb, 0, none⟩) s.body.length s.c) := hI.blk.cell 4
      have y5 : wr.cell? ⟨s.g, 5, none⟩ = some (.int .i64 s.safe) := hI.blk.cell 5
      have y6 : wr.cell? ⟨s.g, 6, none⟩ = some (.bool s.lost) := hI.blk.cell 6
      have f5 := hI.blk.frozen 5
      have f6 := hI.blk.frozen 6
      have z6 : (wr.setCell ⟨s.g, 5, none⟩ (.int .i64 (s.body.length : Int))).cell? ⟨s.g, 6, none⟩ = some (.bool s.lost) := (hI.blk.set_ 5 _).cell 6
      have z7 : (wr.setCell ⟨s.g, 5, none⟩ (.int .i64 (s.body.length : Int))).frozen? ⟨s.g, 6, none⟩ = false := (hI.blk.set_ 5 (.int .i64 (s.body.length : Int))).frozen 6
      have HST := Lib.hid (show F2Rel X w (j + 1) _ from ⟨by rw [← HN.out]; omega, hst.1, hst.2⟩)
      have hbb : s.body.length ≤ 496 := hL.hB s hdr
      clear hI hst hL hs hdr HR
      generalize s.body.length = bn at *
      generalize s.g = sg at *
      generalize s.gb = sgb at *
      generalize s.c = sc at *
      generalize s.safe = ssf at *
      generalize s.lost = slo at *
      go_wp2_with fail
      go_roundw
      case rel =>
        first
        | exact ⟨j + 1, by go_num, HST.out⟩
        | ((repeat apply Exists.intro); exact ⟨⟨j + 1, by go_num, HST.out⟩, rfl⟩)
      case measure => simp [intOf] <;> omega
    · obtain rfl : j = n := by omega
      have hji : ¬ (j : Int) < (j : Int) := by omega
      have H2 := Lib.hid (show HF2 X w (.returned (.int .i64 0)) wr from by
        have e1 : X.shs.take j = X.shs := List.take_of_length_le (by rw [← HN.out]; exact Nat.le_refl _)
        have e2 : f2X X j = { X with shs := X.shs.map ShM.sf } := by unfold f2X; rw [e1, List.drop_of_length_le (by rw [← HN.out]; exact Nat.le_refl _), List.append_nil]
        rw [e2] at hL
        exact ⟨rfl, hL, HR.out.2⟩)
      clear hL HR
      go_wp2_with fail
      go_ret
      exact H2.out
end Go.Proofs.YtfheikmjjijdpaaDoor

