/-
  ask.Put's closure: a number's bytes behind what is there; what Put's loop keeps. No condition but numbers.
-/
import Derived.Test.YtijmfglgeaaoaaaGreatDoorPAskN
import Derived.Test.YtijmfglgeaaoaaaGreatDoorPAskS
namespace Go.Proofs.YtijmfglgeaaoaaaGreatDoor
open Go.RowKit Go.Maps
set_option linter.unusedVariables false
set_option linter.unusedSimpArgs false

/-- The box bo holds zs, and ys behind it. -/
def OutAt (bo : Nat) (A : Option Addr) (zs ys : List Int) (w w' : World) : Prop :=
  ∃ A' c', Blk w' bo 22 #[.slice A' (zs.length + ys.length) c'] ∧ OwnV w' A' (zs.length + ys.length) c' (zs ++ ys) ∧ (∀ g, A' = some ⟨g, 0, none⟩ → A = some ⟨g, 0, none⟩ ∨ w.heap.size ≤ g) ∧ Turned (fun i => i = bo ∨ A = some ⟨i, 0, none⟩) w w'
def OutPost (bo : Nat) (A : Option Addr) (zs ys : List Int) (w : World) (e : Ending) (w' : World) : Prop := e = .returned (.tuple #[]) ∧ OutAt bo A zs ys w w'
theorem OutAt.of_drew {bo : Nat} {A : Option Addr} {zs ys : List Int} {w w' : World} (h : OutAt bo A zs ys w.drew w') : OutAt bo A zs ys w w' := by
  obtain ⟨A', c', h1, h2, h3, h4⟩ := h
  exact ⟨A', c', h1, h2, h3, h4.of_drewN (n := 1)⟩
theorem OutAt.of {bo : Nat} {A A4 : Option Addr} {c c4 : Nat} {zs ys : List Int} {w w2 w4 : World} (hb : Blk w bo 22 #[.slice A zs.length c]) (ho : OwnV w A zs.length c zs) (t2 : Turned (fun _ => False) w w2) {m : Nat} (ho4 : OwnV w4 A4 (zs.length + m) c4 (zs ++ ys)) (hor : App2 w2 w4 A A4 c c4) :
    OutAt bo A zs ys w (w4.setCell ⟨bo, 0, none⟩ (.slice A4 (zs.length + m) c4)) := by
  have hm : m = ys.length := by
    have := ho4.len
    rw [List.length_append] at this
    omega
  subst hm
  have hne : A ≠ some ⟨bo, 0, none⟩ := fun e => ho.blk hb (by decide) e rfl
  have hb4 : Blk w4 bo 22 #[.slice A zs.length c] := (hb.turned t2 (fun e => e)).turned hor.turned hne
  have hne4 : A4 ≠ some ⟨bo, 0, none⟩ := fun e => ho4.blk hb4 (by decide) e rfl
  refine ⟨A4, c4, ?_, ho4.far hne4 0 _, fun g e => ?_, ?_⟩
  · have := hb4.set_ 0 (.slice A4 (zs.length + ys.length) c4)
    simp only [List.setIfInBounds_toArray, List.set_cons_zero] at this
    exact this
  · rcases hor.at_ (s := w.heap.size) t2.size with ⟨e1, _⟩ | ⟨g', e1, hg⟩
    · rw [e1] at e; exact .inl e
    · rw [e1] at e; injection e with e; injection e with e; exact .inr (by omega)
  · exact ((t2.mono (fun _ e => e.elim)).trans (W := fun i => i = bo ∨ A = some ⟨i, 0, none⟩) hor.turned (fun _ e => e) (fun i e => .inl (.inr e))).setCell (.inl (.inl rfl)) _
set_option maxRecDepth 100000 in
set_option maxHeartbeats 1000000 in
theorem put1_any (bo : Nat) (A : Option Addr) (c : Nat) (zs : List Int) (n : Int) (k : Nat) (w : World) (hb : Blk w bo 22 #[.slice A zs.length c]) (ho : OwnV w A zs.length c zs) (hk1 : 1 ≤ k) (hk : k ≤ 8) (hl : zs.length ≤ 1000000) :
    Calls Tryz.prog 44 #[.int .i64 n, .int .i64 k, .pointer (some ⟨bo, 0, none⟩)] w (OutPost bo A zs (be k n) w) := by
  have mixed : Tryz.prog.follows .mixedOrders = true := by kernel_rfl
  have B0 := Lib.hid (hb.drew)
  have O0 := Lib.hid (ho.turned ((Turned.refl (fun _ => False) w).drew) (fun _ _ e => e))
  have hbl := hb.lt
  clear hb ho
  go_enter Tryz.func44, Tryz.ntmps44
  go_wp2_with fail
  refine wp_region_ts (fun _ => True) (tsT [1, 2] (.two 0 3 (tsF [3, 4, 5] .nil) (tsF [0, 4, 5] .nil))) mixed (by kernel_rfl) (fun _ _ _ _ _ h => h) ?_
  simp only [tsT, tsF, List.foldr_cons, List.foldr_nil, Ts.map, List.getElem?_cons_zero, List.getElem?_cons_succ]
  iterate 2 (refine ts_take (v := ?_) trivial rfl (fun w' hw => ?_) ?_; rotate_left; (focus (go_simp; (try with_reducible rfl); done)); try simp only [Act.put, List.setIfInBounds_toArray, List.set_cons_zero, List.set_cons_succ])
  obtain ⟨wd, hwd⟩ : ∃ wd, wd = w.drew := ⟨_, rfl⟩
  rw [← hwd] at B0 O0 ⊢
  have hfin := Lib.hid (fun (w' : World) (h : OutAt bo A zs (be k n) wd w') => (show OutAt bo A zs (be k n) w w' from by rw [hwd] at h; exact h.of_drew))
  clear hwd
  refine ts_two ?_ ?_
  · refine now_run rfl (fun K hK => ?_)
    have x0 := B0.out.cell 0
    go_simp
    refine hK.out _ _ trivial ?_
    clear hK K
    clear x0
    refine ts_run rfl (fun K hK => ?_)
    go_simp
    refine (anum_any n k wd hk1 hk).mono ?_
    rintro e w2 ⟨A2, c2, rfl, o2, g2, t2'⟩
    have O2 := Lib.hid o2
    have t2 := Lib.hid t2'
    clear o2 g2 t2'
    refine hK.out _ _ trivial ?_
    clear hK K
    refine ts_run rfl (fun K hK => ?_)
    refine wp_appB (.tmp 5) (.tmp 8) rfl (O0.out.turned t2.out (fun _ _ e => e)) O2.out (by rw [be_length]; omega) (by rw [be_length]; omega) rfl rfl ?_
    intro A4 c4 w4 ho4 hor4
    have hx4 := (B0.out.turned t2.out (fun e => e)).turned hor4.turned (fun e => (O0.out.blk B0.out (by decide) e) rfl)
    have x4 := hx4.cell 0
    have f4 := hx4.frozen 0
    have OA := Lib.hid (OutAt.of B0.out O0.out t2.out ho4 hor4)
    clear hx4 ho4 hor4
    refine hK.out _ _ trivial ?_
    clear hK K
    try simp only [Act.put, List.setIfInBounds_toArray, List.set_cons_zero, List.set_cons_succ]
    refine ts_run rfl (fun K hK => ?_)
    go_simp
    refine hK.out _ _ trivial ?_
    clear hK K
    refine ts_nil ?_
    go_wp2_with fail
    go_end0
    exact ⟨rfl, hfin.out _ OA.out⟩
  · refine now_run rfl (fun K hK => ?_)
    go_simp
    refine (anum_any n k wd hk1 hk).mono ?_
    rintro e w2 ⟨A2, c2, rfl, o2, g2, t2'⟩
    have O2 := Lib.hid o2
    have t2 := Lib.hid t2'
    clear o2 g2 t2'
    refine hK.out _ _ trivial ?_
    clear hK K
    have x0 := (B0.out.turned t2.out (fun e => e)).cell 0
    refine ts_run rfl (fun K hK => ?_)
    go_simp
    refine hK.out _ _ trivial ?_
    clear hK K
    clear x0
    refine ts_run rfl (fun K hK => ?_)
    refine wp_appB (.tmp 5) (.tmp 8) rfl (O0.out.turned t2.out (fun _ _ e => e)) O2.out (by rw [be_length]; omega) (by rw [be_length]; omega) rfl rfl ?_
    intro A4 c4 w4 ho4 hor4
    have hx4 := (B0.out.turned t2.out (fun e => e)).turned hor4.turned (fun e => (O0.out.blk B0.out (by decide) e) rfl)
    have x4 := hx4.cell 0
    have f4 := hx4.frozen 0
    have OA := Lib.hid (OutAt.of B0.out O0.out t2.out ho4 hor4)
    clear hx4 ho4 hor4
    refine hK.out _ _ trivial ?_
    clear hK K
    try simp only [Act.put, List.setIfInBounds_toArray, List.set_cons_zero, List.set_cons_succ]
    refine ts_run rfl (fun K hK => ?_)
    go_simp
    refine hK.out _ _ trivial ?_
    clear hK K
    refine ts_nil ?_
    go_wp2_with fail
    go_end0
    exact ⟨rfl, hfin.out _ OA.out⟩
end Go.Proofs.YtijmfglgeaaoaaaGreatDoor

