/-
  log.each, where a step may have an error; log.Force over many sheets, the disk crashing at any write or at the sync. Conditions: a disk that is up, apart from the log; the Lsns rise; what is not safe has a Lsn.
-/
import Derived.Test.YtfheikmjjijdpaaDoorQLhF
namespace Go.Proofs.YtfheikmjjijdpaaDoor
open Go.RowKit Go.Maps Go.Proofs
set_option linter.unusedVariables false
set_option linter.unusedSimpArgs false

theorem heach_any (r bl d : Nat) (P1 P2 P3 Q : World → Prop) (w : World) (h0 : RowF w r bl d) (h1 : ∀ w', P1 w' → RowF w' r bl d) (h2 : ∀ w', P2 w' → RowF w' r bl d)
    (C1 : Calls Tryd.prog 45 #[.pointer (some ⟨bl, 0, none⟩)] w (fun e w'' => (e = .returned (.int .i64 0) ∧ P1 w'') ∨ (e = .returned (.int .i64 8) ∧ Q w''))) (C2 : ∀ w', P1 w' → Calls Tryd.prog 47 #[.pointer (some ⟨d, 0, none⟩)] w' (fun e w'' => (e = .returned (.int .i64 0) ∧ P2 w'') ∨ (e = .returned (.int .i64 8) ∧ Q w''))) (C3 : ∀ w', P2 w' → Calls Tryd.prog 48 #[.pointer (some ⟨bl, 0, none⟩)] w' (fun e w'' => e = .returned (.int .i64 0) ∧ P3 w'')) :
    Calls Tryd.prog 44 #[.slice (some ⟨r, 0, none⟩) 3 3] w (fun e w'' => (e = .returned (.int .i64 0) ∧ P3 w'') ∨ (e = .returned (.int .i64 8) ∧ Q w'')) := by
  have H1 := Lib.hid h1; have H2 := Lib.hid h2; have K1 := Lib.hid C1; have K2 := Lib.hid C2; have K3 := Lib.hid C3; have H0 := Lib.hid h0
  clear h1 h2 C1 C2 C3 h0
  go_enter Tryd.func44, Tryd.ntmps44
  go_wp2_with fail
  go_loopw [4, 5, 8] (fun _ _ i wr => (i = .int .i64 0 ∧ wr = w) ∨ (i = .int .i64 1 ∧ P1 wr) ∨ (i = .int .i64 2 ∧ P2 wr) ∨ (i = .int .i64 3 ∧ P3 wr)) (fun _ _ i _ => 3 - (intOf i).toNat)
  case atStart => exact .inl ⟨rfl, rfl⟩
  case round =>
    rcases hrel with ⟨rfl, rfl⟩ | ⟨rfl, p⟩ | ⟨rfl, p⟩ | ⟨rfl, p⟩
    · have x := H0.out.1
      go_wp2_with fail
      refine K1.out.mono ?_
      rintro e w2 (⟨rfl, q⟩ | ⟨rfl, q⟩)
      · have Q' := Lib.hid q
        clear q x
        go_wp2_with fail
        go_roundw
        case rel =>
          first
          | exact .inr (.inl ⟨rfl, Q'.out⟩)
          | ((repeat apply Exists.intro); exact ⟨.inr (.inl ⟨rfl, Q'.out⟩), rfl⟩)
        case measure => simp [intOf]
      · have Q' := Lib.hid q
        clear q x
        go_wp2_with fail
        go_ret
        exact .inr ⟨rfl, Q'.out⟩
    · have x := (H1.out _ p).2.1
      have PP := Lib.hid p
      clear p
      go_wp2_with fail
      refine (K2.out _ PP.out).mono ?_
      rintro e w2 (⟨rfl, q⟩ | ⟨rfl, q⟩)
      · have Q' := Lib.hid q
        clear q x
        go_wp2_with fail
        go_roundw
        case rel =>
          first
          | exact .inr (.inr (.inl ⟨rfl, Q'.out⟩))
          | ((repeat apply Exists.intro); exact ⟨.inr (.inr (.inl ⟨rfl, Q'.out⟩)), rfl⟩)
        case measure => simp [intOf]
      · have Q' := Lib.hid q
        clear q x
        go_wp2_with fail
        go_ret
        exact .inr ⟨rfl, Q'.out⟩
    · have x := (H2.out _ p).2.2
      have PP := Lib.hid p
      clear p
      go_wp2_with fail
      refine (K3.out _ PP.out).mono ?_
      rintro e w2 ⟨rfl, q⟩
      have Q' := Lib.hid q
      clear q x
      go_wp2_with fail
      go_roundw
      case rel =>
        first
        | exact .inr (.inr (.inr ⟨rfl, Q'.out⟩))
        | ((repeat apply Exists.intro); exact ⟨.inr (.inr (.inr ⟨rfl, Q'.out⟩)), rfl⟩)
      case measure => simp [intOf]
    · have PP := Lib.hid p
      clear p
      go_wp2_with fail
      go_ret
      exact .inl ⟨rfl, PP.out⟩
def LgM.done (X : LgM) : LgM := { X with shs := X.shs.map (fun s => (s.wr X.turn).sf) }
structure HDone (X : LgM) (ms mo : Nat) (A : DA) (w w' : World) : Prop where
  disk : IsDisk w' X.d ms mo (wrD X A X.shs).sync
  tick : tickD (wrD X A X.shs).armed = false
  log : LogM w' X.done
  turned : Turned (ownD X ms mo) w w'
def HForce (X : LgM) (ms mo : Nat) (A : DA) (w : World) (e : Ending) (w' : World) : Prop := (e = .returned (.int .i64 0) ∧ HDone X ms mo A w w') ∨ (e = .returned (.int .i64 8) ∧ F1Down X ms mo A w w')
theorem WrOk.mono {X Y : LgM} {ms mo : Nat} {A : DA} (h : WrOk X ms mo A) (e : Y = X) : WrOk Y ms mo A := by rw [e]; exact h
set_option maxRecDepth 100000 in
set_option maxHeartbeats 2000000 in
theorem mforce_all (X : LgM) (init : List ShM) (s : ShM) (w : World) (h : LogM w X) (es : X.shs = init ++ [s]) (hno : ∀ t ∈ X.shs, ¬ t.safe < (t.body.length : Int)) :
    Calls Tryd.prog 15 #[.pointer (some ⟨X.L, 0, none⟩)] w (RetNew (.int .i64 0) w) := by
  have mixed : Tryd.prog.follows .mixedOrders = true := by kernel_rfl
  have hmf : ∀ (fn : Fn) (first cap : Array Value) (w : World), (Instr.makeFunc fn first cap).run Tryd.prog w = .ok (.func fn first cap) w := fun _ _ _ _ => rfl
  have HSf := Lib.hid (fun (w' : World) (t : Turned (fun _ => False) w w') => msafe_all X init s w' (h.fresh t) es hno)
  have HE := Lib.hid (fun (w' : World) (t : Turned (fun _ => False) w w') => mend_any X init s w' (h.fresh t) es)
  have HL := Lib.hid h
  generalize s.num * 512 + (s.body.length : Int) + 1 = ve at *
  have T0 := Lib.hid ((Turned.refl (fun _ => False) w).alloc (.cells #[.pointer (some ⟨X.L, 0, none⟩)] 24))
  have BB := Lib.hid (Blk.new w 24 #[.pointer (some ⟨X.L, 0, none⟩)])
  clear h
  go_enter Tryd.func15, Tryd.ntmps15
  go_wp2_with fail
  generalize w.alloc (.cells #[.pointer (some ⟨X.L, 0, none⟩)] 24) = w0 at *
  obtain ⟨bl, hbl⟩ : ∃ bl, bl = w.heap.size := ⟨_, rfl⟩
  rw [← hbl] at BB ⊢
  have Hbl := Lib.hid hbl
  clear hbl
  refine (lthere_yes X.L X.d w0 ((HL.out.fresh T0.out).blk.cell 0)).mono ?_
  rintro e w1 ⟨rfl, rfl⟩
  have xb : w0.cell? ⟨bl, 0, none⟩ = some (.pointer (some ⟨X.L, 0, none⟩)) := BB.out.cell 0
  go_wp2_with fail
  refine wp_region_segs (fun w' => w'.cell? ⟨bl, 0, none⟩ = some (.pointer (some ⟨X.L, 0, none⟩))) (segT [0, 2] ++ segF [1, 3] ++ segT [4, 5]) mixed (by kernel_rfl) (fun _ _ _ _ _ h => h) ?_
  simp only [segT, segF, pickSegs, List.map_cons, List.map_nil, List.cons_append, List.nil_append, List.filterMap_cons, List.filterMap_nil, List.getElem?_cons_zero, List.getElem?_cons_succ, Option.map_some]
  have T1 := Lib.hid T0.out.drew
  have hS : w0.drew.cell? ⟨bl, 0, none⟩ = some (.pointer (some ⟨X.L, 0, none⟩)) := xb
  generalize w0.drew = v0 at *
  (refine wpSegs_take (v := ?_) hS rfl (fun w' hw => ?_) ?_; rotate_left; (focus (go_simp; (try with_reducible rfl); done)); try simp only [Act.put, List.setIfInBounds_toArray, List.set_cons_zero, List.set_cons_succ])
  (refine wpSegs_take (v := ?_) hS rfl (fun w' hw => ?_) ?_; rotate_left; (focus (go_simp; (try with_reducible rfl); done)); try simp only [Act.put, List.setIfInBounds_toArray, List.set_cons_zero, List.set_cons_succ])
  refine wpSegs_run rfl (fun K hK => ?_)
  go_simp
  refine (HSf.out _ T1.out).mono ?_
  rintro e v1 ⟨rfl, t1⟩
  have T2 := Lib.hid (T1.out.and_ t1)
  have hS := cell_turned t1 hS (fun e => e)
  clear t1
  refine hK.out _ _ hS ?_
  clear hK K
  try simp only [Act.put, List.setIfInBounds_toArray, List.set_cons_zero, List.set_cons_succ]
  refine wpSegs_run rfl (fun K hK => ?_)
  go_simp
  refine (HE.out _ T2.out).mono ?_
  rintro e v2 ⟨rfl, t2⟩
  have T3 := Lib.hid (T2.out.and_ t2)
  have hS := cell_turned t2 hS (fun e => e)
  clear t2
  refine hK.out _ _ hS ?_
  clear hK K
  try simp only [Act.put, List.setIfInBounds_toArray, List.set_cons_zero, List.set_cons_succ]
  (refine wpSegs_take (v := ?_) hS rfl (fun w' hw => ?_) ?_; rotate_left; (focus (go_simp; (try with_reducible rfl); done)); try simp only [Act.put, List.setIfInBounds_toArray, List.set_cons_zero, List.set_cons_succ])
  (refine wpSegs_take (v := ?_) hS rfl (fun w' hw => ?_) ?_; rotate_left; (focus (go_simp; (try with_reducible rfl); done)); try simp only [Act.put, List.setIfInBounds_toArray, List.set_cons_zero, List.set_cons_succ])
  refine wpSegs_nil ?_
  clear T1 T2 xb HSf HE
  have xb := hS
  clear hS
  go_wp2_with fail
  go_ret
  exact ⟨rfl, T3.out⟩
set_option maxRecDepth 100000 in
set_option maxHeartbeats 2000000 in
theorem mforce_some (ms mo : Nat) (A : DA) (X : LgM) (init : List ShM) (s : ShM) (i q : Nat) (si : ShM) (vq : Int) (w : World) (h : LogM w X) (es : X.shs = init ++ [s]) (hs : X.ls.Pairwise (· ≤ ·)) (hi : X.shs[i]? = some si) (hsf : 0 ≤ si.safe ∧ si.safe < (si.body.length : Int)) (hno : ∀ j t, j < i → X.shs[j]? = some t → ¬ t.safe < (t.body.length : Int))
    (hq : X.ls.countP (· < si.num * 512 + si.safe + 1) = q) (hv : X.ls[q]? = some vq) (hne : vq ≠ s.num * 512 + (s.body.length : Int) + 1) (hD : IsDisk w X.d ms mo A) (hdn : A.down = false) (hO : WrOk X ms mo A) :
    Calls Tryd.prog 15 #[.pointer (some ⟨X.L, 0, none⟩)] w (HForce X ms mo A w) := by
  have mixed : Tryd.prog.follows .mixedOrders = true := by kernel_rfl
  have hmf : ∀ (fn : Fn) (first cap : Array Value) (w : World), (Instr.makeFunc fn first cap).run Tryd.prog w = .ok (.func fn first cap) w := fun _ _ _ _ => rfl
  have HSf := Lib.hid (fun (w' : World) (t : Turned (fun _ => False) w w') => msafe_some X i q si vq w' (h.fresh t) hs hi hsf hno hq hv)
  have HE := Lib.hid (fun (w' : World) (t : Turned (fun _ => False) w w') => mend_any X init s w' (h.fresh t) es)
  have HL := Lib.hid h
  have H1 := Lib.hid (fun (w' : World) (t : Turned (fun _ => False) w w') (bl : Nat) (hbl : w'.cell? ⟨bl, 0, none⟩ = some (.pointer (some ⟨X.L, 0, none⟩))) (hf : ¬ ownD X ms mo bl) => hforce1_any ms mo bl X A w' (h.fresh t) hbl (hD.fresh t) hdn hO hf)
  have H2 := Lib.hid (fun (w' : World) (bl : Nat) (l : LogM w' { X with shs := X.shs.map (fun s => s.wr X.turn) }) (hbl : w'.cell? ⟨bl, 0, none⟩ = some (.pointer (some ⟨X.L, 0, none⟩))) => hforce2_any bl { X with shs := X.shs.map (fun s => s.wr X.turn) } w' l hbl)
  have HO := Lib.hid hO
  have HDl := Lib.hid (fun i (hi : ownD X ms mo i) => (hi.elim (fun e => h.lt e) (fun e => hD.lt e) : i < w.heap.size))
  have hne2 : (vq == s.num * 512 + (s.body.length : Int) + 1) = false := by simpa using hne
  clear hD hdn hO hne
  generalize s.num * 512 + (s.body.length : Int) + 1 = ve at *
  have T0 := Lib.hid ((Turned.refl (fun _ => False) w).alloc (.cells #[.pointer (some ⟨X.L, 0, none⟩)] 24))
  have BB := Lib.hid (Blk.new w 24 #[.pointer (some ⟨X.L, 0, none⟩)])
  clear h
  go_enter Tryd.func15, Tryd.ntmps15
  go_wp2_with fail
  generalize w.alloc (.cells #[.pointer (some ⟨X.L, 0, none⟩)] 24) = w0 at *
  obtain ⟨bl, hbl⟩ : ∃ bl, bl = w.heap.size := ⟨_, rfl⟩
  rw [← hbl] at BB ⊢
  have Hbl := Lib.hid hbl
  clear hbl
  refine (lthere_yes X.L X.d w0 ((HL.out.fresh T0.out).blk.cell 0)).mono ?_
  rintro e w1 ⟨rfl, rfl⟩
  have xb : w0.cell? ⟨bl, 0, none⟩ = some (.pointer (some ⟨X.L, 0, none⟩)) := BB.out.cell 0
  go_wp2_with fail
  refine wp_region_segs (fun w' => w'.cell? ⟨bl, 0, none⟩ = some (.pointer (some ⟨X.L, 0, none⟩))) (segT [0, 2] ++ segF [1, 3] ++ segT [4, 5]) mixed (by kernel_rfl) (fun _ _ _ _ _ h => h) ?_
  simp only [segT, segF, pickSegs, List.map_cons, List.map_nil, List.cons_append, List.nil_append, List.filterMap_cons, List.filterMap_nil, List.getElem?_cons_zero, List.getElem?_cons_succ, Option.map_some]
  have T1 := Lib.hid T0.out.drew
  have hS : w0.drew.cell? ⟨bl, 0, none⟩ = some (.pointer (some ⟨X.L, 0, none⟩)) := xb
  generalize w0.drew = v0 at *
  (refine wpSegs_take (v := ?_) hS rfl (fun w' hw => ?_) ?_; rotate_left; (focus (go_simp; (try with_reducible rfl); done)); try simp only [Act.put, List.setIfInBounds_toArray, List.set_cons_zero, List.set_cons_succ])
  (refine wpSegs_take (v := ?_) hS rfl (fun w' hw => ?_) ?_; rotate_left; (focus (go_simp; (try with_reducible rfl); done)); try simp only [Act.put, List.setIfInBounds_toArray, List.set_cons_zero, List.set_cons_succ])
  refine wpSegs_run rfl (fun K hK => ?_)
  go_simp
  refine (HSf.out _ T1.out).mono ?_
  rintro e v1 ⟨rfl, t1⟩
  have T2 := Lib.hid (T1.out.and_ t1)
  have hS := cell_turned t1 hS (fun e => e)
  clear t1
  refine hK.out _ _ hS ?_
  clear hK K
  try simp only [Act.put, List.setIfInBounds_toArray, List.set_cons_zero, List.set_cons_succ]
  refine wpSegs_run rfl (fun K hK => ?_)
  go_simp
  refine (HE.out _ T2.out).mono ?_
  rintro e v2 ⟨rfl, t2⟩
  have T3 := Lib.hid (T2.out.and_ t2)
  have hS := cell_turned t2 hS (fun e => e)
  clear t2
  refine hK.out _ _ hS ?_
  clear hK K
  try simp only [Act.put, List.setIfInBounds_toArray, List.set_cons_zero, List.set_cons_succ]
  (refine wpSegs_take (v := ?_) hS rfl (fun w' hw => ?_) ?_; rotate_left; (focus (go_simp; (try with_reducible rfl); done)); try simp only [Act.put, List.setIfInBounds_toArray, List.set_cons_zero, List.set_cons_succ])
  (refine wpSegs_take (v := ?_) hS rfl (fun w' hw => ?_) ?_; rotate_left; (focus (go_simp; (try with_reducible rfl); done)); try simp only [Act.put, List.setIfInBounds_toArray, List.set_cons_zero, List.set_cons_succ])
  refine wpSegs_nil ?_
  clear T1 T2 xb HSf HE
  have xb := hS
  clear hS
  clear hs hi hsf hno hq hv
  have x0 : v2.cell? ⟨X.L, 0, none⟩ = some (.pointer (some ⟨X.d, 0, none⟩)) := (HL.out.fresh T3.out).blk.cell 0
  obtain ⟨d, hd⟩ : ∃ d, d = X.d := ⟨_, rfl⟩
  have HDd := Lib.hid hd
  rw [← hd] at x0
  clear hd
  go_wp2_with fail
  have s3 := T3.out.size
  have h1 := Hbl.out
  have hrg : ¬ ownD X ms mo v2.heap.size := fun e => by have := HDl.out _ e; omega
  have hbg : ¬ ownD X ms mo bl := fun e => by have := HDl.out _ e; omega
  have HR := Lib.hid hrg
  have HG := Lib.hid hbg
  clear h1 s3 hrg hbg
  have hr0 : RowF (v2.alloc (.cells #[.func (.func 45) #[] #[.pointer (some ⟨bl, 0, none⟩)], .func (.func 47) #[.pointer (some ⟨d, 0, none⟩)] #[], .func (.func 48) #[] #[.pointer (some ⟨bl, 0, none⟩)]] 49)) v2.heap.size bl d := ⟨(Blk.new v2 _ _).cell 0, (Blk.new v2 _ _).cell 1, (Blk.new v2 _ _).cell 2⟩
  have tv := (Turned.refl (fun _ => False) v2).alloc (.cells #[.func (.func 45) #[] #[.pointer (some ⟨bl, 0, none⟩)], .func (.func 47) #[.pointer (some ⟨d, 0, none⟩)] #[], .func (.func 48) #[] #[.pointer (some ⟨bl, 0, none⟩)]] 49)
  have hb0 := cell_turned tv xb (fun e => e)
  have T4 := Lib.hid (T3.out.and_ tv)
  clear xb x0 tv
  generalize v2.alloc (.cells #[.func (.func 45) #[] #[.pointer (some ⟨bl, 0, none⟩)], .func (.func 47) #[.pointer (some ⟨d, 0, none⟩)] #[], .func (.func 48) #[] #[.pointer (some ⟨bl, 0, none⟩)]] 49) = v3 at *
  generalize v2.heap.size = r at *
  refine (heach_any r bl d (fun w' => F1Done X ms mo A v3 w') (fun w' => IsDisk w' X.d ms mo (wrD X A X.shs).sync ∧ tickD (wrD X A X.shs).armed = false ∧ LogM w' { X with shs := X.shs.map (fun s => s.wr X.turn) } ∧ Turned (ownD X ms mo) v3 w') (fun w' => HDone X ms mo A v3 w') (fun w' => F1Down X ms mo A v3 w') v3 hr0 (fun w' p => ⟨cell_turned p.turned hr0.1 HR.out, cell_turned p.turned hr0.2.1 HR.out, cell_turned p.turned hr0.2.2 HR.out⟩) (fun w' p => ⟨cell_turned p.2.2.2 hr0.1 HR.out, cell_turned p.2.2.2 hr0.2.1 HR.out, cell_turned p.2.2.2 hr0.2.2 HR.out⟩) ?_ ?_ ?_).mono ?_
  · exact H1.out v3 T4.out bl hb0 HG.out
  · intro w5 p
    rw [HDd.out]
    by_cases ht : tickD (wrD X A X.shs).armed = true
    · refine (sync_crash X.d ms mo _ w5 p.disk p.up ht).mono ?_
      rintro e w6 ⟨rfl, d6, t6⟩
      refine .inr ⟨rfl, ⟨fun h0 => by have h1 := wr_armed0 X X.shs A h0; rw [h1] at ht; exact absurd ht (by decide), ⟨X.shs.length, _, Nat.le_refl _, d6, ?_, ?_, ?_, ?_, ?_⟩, p.turned.trans t6 (fun _ e => e) (fun _ e => .inl (.inr e))⟩⟩
      · unfold DA.sync; rw [if_pos ht]
      · unfold DA.sync; rw [if_pos ht, List.take_of_length_le (Nat.le_refl _)]
      · unfold DA.sync; rw [if_pos ht, List.take_of_length_le (Nat.le_refl _)]
      · unfold DA.sync; rw [if_pos ht]; exact (wrD_n X _ A).2
      · unfold DA.sync; rw [if_pos ht]; exact (wrD_n X _ A).1
    · have ht2 : tickD (wrD X A X.shs).armed = false := by simpa using ht
      refine (sync_ok X.d ms mo _ w5 p.disk p.up ht2).mono ?_
      rintro e w6 ⟨rfl, d6, t6⟩
      refine .inl ⟨rfl, d6, ht2, p.log.far t6 (fun i hi e => ?_), p.turned.trans t6 (fun _ e => e) (fun _ e => .inl (.inr e))⟩
      have hx : f1X X X.shs.length = { X with shs := X.shs.map (fun s => s.wr X.turn) } := by unfold f1X; rw [List.take_of_length_le (Nat.le_refl _), List.drop_of_length_le (Nat.le_refl _), List.append_nil]
      rw [← hx] at hi
      exact HO.out.dB i e (f1X_own (w := w) hi)
  · intro w6 p
    refine (H2.out w6 bl p.2.2.1 (cell_turned p.2.2.2 hb0 HG.out)).mono ?_
    rintro e w7 ⟨rfl, l7, t7⟩
    have hown : ∀ i, ({ X with shs := X.shs.map (fun s => s.wr X.turn) } : LgM).own i → X.own i := fun i hi => by
      have hx : f1X X X.shs.length = { X with shs := X.shs.map (fun s => s.wr X.turn) } := by unfold f1X; rw [List.take_of_length_le (Nat.le_refl _), List.drop_of_length_le (Nat.le_refl _), List.append_nil]
      rw [← hx] at hi
      exact f1X_own (w := w) hi
    refine ⟨rfl, p.1.turned t7 (fun i hi e => HO.out.dB i hi (hown i e)), p.2.1, ?_, p.2.2.2.trans t7 (fun _ e => e) (fun i e => .inl (.inl (hown i e)))⟩
    unfold LgM.done
    simp only [List.map_map] at l7
    exact l7
  · rintro e w8 (⟨rfl, p⟩ | ⟨rfl, p⟩)
    · have PP := Lib.hid p
      clear p
      go_wp2_with fail
      go_ret
      exact .inl ⟨rfl, PP.out.disk, PP.out.tick, PP.out.log, (T4.out.mono (fun _ e => e.elim)).trans PP.out.turned (fun _ e => e) (fun _ e => .inl e)⟩
    · have PP := Lib.hid p
      clear p
      go_wp2_with fail
      go_ret
      exact .inr ⟨rfl, PP.out.arm, PP.out.disk, (T4.out.mono (fun _ e => e.elim)).trans PP.out.turned (fun _ e => e) (fun _ e => .inl e)⟩
end Go.Proofs.YtfheikmjjijdpaaDoor

