/-
  log.each's three steps; log.Force for a log of one sheet, part of which is not safe. Conditions: as log.write's and log.Safe's; the disk is not armed.
-/
import Derived.Test.YtfheikmjjijdpaaDoorLgI
namespace Go.Proofs.YtfheikmjjijdpaaDoor
open Go.RowKit Go.Maps
set_option linter.unusedVariables false
set_option linter.unusedSimpArgs false

/-- The three steps stand in row r. -/
def RowF (w : World) (r bl d : Nat) : Prop := w.cell? ⟨r, 0, none⟩ = some (.func (.func 45) #[] #[.pointer (some ⟨bl, 0, none⟩)]) ∧ w.cell? ⟨r, 1, none⟩ = some (.func (.func 47) #[.pointer (some ⟨d, 0, none⟩)] #[]) ∧ w.cell? ⟨r, 2, none⟩ = some (.func (.func 48) #[] #[.pointer (some ⟨bl, 0, none⟩)])
set_option maxRecDepth 100000 in
set_option maxHeartbeats 2000000 in
theorem leach_any (r bl d : Nat) (P1 P2 P3 : World → Prop) (w : World) (h0 : RowF w r bl d) (h1 : ∀ w', P1 w' → RowF w' r bl d) (h2 : ∀ w', P2 w' → RowF w' r bl d)
    (C1 : Calls Tryd.prog 45 #[.pointer (some ⟨bl, 0, none⟩)] w (fun e w' => e = .returned (.int .i64 0) ∧ P1 w')) (C2 : ∀ w', P1 w' → Calls Tryd.prog 47 #[.pointer (some ⟨d, 0, none⟩)] w' (fun e w'' => e = .returned (.int .i64 0) ∧ P2 w'')) (C3 : ∀ w', P2 w' → Calls Tryd.prog 48 #[.pointer (some ⟨bl, 0, none⟩)] w' (fun e w'' => e = .returned (.int .i64 0) ∧ P3 w'')) :
    Calls Tryd.prog 44 #[.slice (some ⟨r, 0, none⟩) 3 3] w (fun e w' => e = .returned (.int .i64 0) ∧ P3 w') := by
  have H1 := Lib.hid h1; have H2 := Lib.hid h2; have K1 := Lib.hid C1; have K2 := Lib.hid C2; have K3 := Lib.hid C3; have H0 := Lib.hid h0
  clear h1 h2 C1 C2 C3 h0
  go_enter Tryd.func44, Tryd.ntmps44
  go_wp2_with fail
  go_loopw [4, 5, 8] (fun _ _ i wr => (i = .int .i64 0 ∧ wr = w) ∨ (i = .int .i64 1 ∧ P1 wr) ∨ (i = .int .i64 2 ∧ P2 wr) ∨ (i = .int .i64 3 ∧ P3 wr)) (fun _ _ i _ => 3 - (intOf i).toNat)
  case atStart => exact .inl ⟨rfl, rfl⟩
  case round =>
    rcases hrel with ⟨rfl, rfl⟩ | ⟨rfl, p⟩ | ⟨rfl, p⟩ | ⟨rfl, p⟩
    · have x := H0.out.1
      go_wp2_with fail
      refine K1.out.mono ?_
      rintro e w2 ⟨rfl, q⟩
      have Q := Lib.hid q
      clear q x
      go_wp2_with fail
      go_roundw
      case rel =>
        first
        | exact .inr (.inl ⟨rfl, Q.out⟩)
        | ((repeat apply Exists.intro); exact ⟨.inr (.inl ⟨rfl, Q.out⟩), rfl⟩)
      case measure => simp [intOf]
    · have x := (H1.out _ p).2.1
      have PP := Lib.hid p
      clear p
      go_wp2_with fail
      refine (K2.out _ PP.out).mono ?_
      rintro e w2 ⟨rfl, q⟩
      have Q := Lib.hid q
      clear q x
      go_wp2_with fail
      go_roundw
      case rel =>
        first
        | exact .inr (.inr (.inl ⟨rfl, Q.out⟩))
        | ((repeat apply Exists.intro); exact ⟨.inr (.inr (.inl ⟨rfl, Q.out⟩)), rfl⟩)
      case measure => simp [intOf]
    · have x := (H2.out _ p).2.2
      have PP := Lib.hid p
      clear p
      go_wp2_with fail
      refine (K3.out _ PP.out).mono ?_
      rintro e w2 ⟨rfl, q⟩
      have Q := Lib.hid q
      clear q x
      go_wp2_with fail
      go_roundw
      case rel =>
        first
        | exact .inr (.inr (.inr ⟨rfl, Q.out⟩))
        | ((repeat apply Exists.intro); exact ⟨.inr (.inr (.inr ⟨rfl, Q.out⟩)), rfl⟩)
      case measure => simp [intOf]
    · have PP := Lib.hid p
      clear p
      go_wp2_with fail
      go_ret
      exact ⟨rfl, PP.out⟩
/-- What Force leaves: the sheet on the disk, all safe. -/
def LForce (B ms mo : Nat) (X : LgS) (A : DA) (w : World) (e : Ending) (w' : World) : Prop := e = .returned (.int .i64 0) ∧ IsDisk w' X.d ms mo (A.write (X.first + X.num % X.count) (shtL X.num X.turn X.bef X.body)).sync ∧ LogW w' B { X with tn := X.turn, safe := X.body.length, lost := false } ∧ Turned (fun i => i = X.g ∨ dskW X.d ms mo i) w w'
set_option maxRecDepth 100000 in
set_option maxHeartbeats 2000000 in
theorem lforce_any (B ms mo al q : Nat) (X : LgS) (A : DA) (w : World) (h : LogW w B X) (hk : X.k = 0) (hD : IsDisk w X.d ms mo A) (hdn : A.down = false) (har : A.armed = 0) (hdB : ∀ i, dskW X.d ms mo i → i < B) (hBw : B ≤ w.heap.size) (hn2 : X.body.length < 496) (hb : ∀ z ∈ X.body, isByte z) (hf : 0 ≤ X.first) (hs : X.first + X.count ≤ A.n)
    (hAl : X.Al = some ⟨al, 0, none⟩) (hs0 : 0 ≤ X.safe) (hs1 : X.safe < (X.body.length : Int)) (hp : X.ls.Pairwise (· ≤ ·)) (hq : X.ls.countP (· < X.num * 512 + X.safe + 1) = q) (hq2 : q < X.ls.length) (hne : X.ls.getD q 0 ≠ X.num * 512 + (X.body.length : Int) + 1) :
    Calls Tryd.prog 15 #[.pointer (some ⟨X.L, 0, none⟩)] w (LForce B ms mo X A w) := by
  have mixed : Tryd.prog.follows .mixedOrders = true := by kernel_rfl
  have hmf : ∀ (fn : Fn) (first cap : Array Value) (w : World), (Instr.makeFunc fn first cap).run Tryd.prog w = .ok (.func fn first cap) w := fun _ _ _ _ => rfl
  have HSf := Lib.hid (fun (w' : World) (t : Turned (fun _ => False) w w') => lsafe_any B al q X w' (h.fresh t) hk hAl hs0 hs1 hp hq hq2)
  have HE := Lib.hid (fun (w' : World) (t : Turned (fun _ => False) w w') => lend_any _ _ _ _ _ _ _ _ _ _ _ w' (h.fresh t).read)
  have H1 := Lib.hid (fun (w' : World) (t : Turned (fun _ => False) w w') (bl : Nat) (hbl : w'.cell? ⟨bl, 0, none⟩ = some (.pointer (some ⟨X.L, 0, none⟩))) => lforce1_any B ms mo bl X A w' (h.fresh t) hbl hk (hD.fresh t) hdn (by rw [har]; rfl) hdB (Nat.le_trans hBw t.size) (by omega) (by omega) hn2 hb hf hs)
  have HY := Lib.hid (fun (w' : World) (d1 : IsDisk w' X.d ms mo (A.write (X.first + X.num % X.count) (shtL X.num X.turn X.bef X.body))) => sync_ok X.d ms mo _ w' d1 (by show tickD A.armed = false; rw [har]; rfl) (by show tickD (tickA A.armed) = false; rw [har]; rfl))
  have H2 := Lib.hid (fun (w' : World) (bl : Nat) (l : LogW w' B { X with tn := X.turn }) (hbl : w'.cell? ⟨bl, 0, none⟩ = some (.pointer (some ⟨X.L, 0, none⟩))) => lforce2_any B bl { X with tn := X.turn } w' l hbl hk)
  have HdB := Lib.hid hdB
  have HB := Lib.hid hBw
  have HL := Lib.hid h
  have hne2 : (X.ls.getD q 0 == X.num * 512 + (X.body.length : Int) + 1) = false := by simpa using hne
  have har2 := Lib.hid har
  clear hD hdn har hdB hBw hn2 hb hf hs hAl hs0 hs1 hp hq hq2 hne h
  obtain ⟨L, d, Sb, g, gb, first, count, turn, oldest, k, cS, ps, Al, cl, ls, num, tn, bef, used, safe, body, c, lost⟩ := X
  simp only at *
  obtain rfl : k = 0 := hk
  generalize ls.getD q 0 = vq at *
  generalize num * 512 + (body.length : Int) + 1 = ve at *
  have T0 := Lib.hid ((Turned.refl (fun _ => False) w).alloc (.cells #[.pointer (some ⟨L, 0, none⟩)] 24))
  have BB := Lib.hid (Blk.new w 24 #[.pointer (some ⟨L, 0, none⟩)])
  go_enter Tryd.func15, Tryd.ntmps15
  go_wp2_with fail
  generalize w.alloc (.cells #[.pointer (some ⟨L, 0, none⟩)] 24) = w0 at *
  obtain ⟨bl, hbl⟩ : ∃ bl, bl = w.heap.size := ⟨_, rfl⟩
  rw [← hbl] at BB ⊢
  have Hbl := Lib.hid hbl
  clear hbl
  refine (lthere_yes L d w0 (HL.out.fresh T0.out).read.d0).mono ?_
  rintro e w1 ⟨rfl, rfl⟩
  have xb : w0.cell? ⟨bl, 0, none⟩ = some (.pointer (some ⟨L, 0, none⟩)) := BB.out.cell 0
  go_wp2_with fail
  refine wp_region_segs (fun w' => w'.cell? ⟨bl, 0, none⟩ = some (.pointer (some ⟨L, 0, none⟩))) (segT [0, 2] ++ segF [1, 3] ++ segT [4, 5]) mixed (by kernel_rfl) (fun _ _ _ _ _ h => h) ?_
  simp only [segT, segF, pickSegs, List.map_cons, List.map_nil, List.cons_append, List.nil_append, List.filterMap_cons, List.filterMap_nil, List.getElem?_cons_zero, List.getElem?_cons_succ, Option.map_some]
  have T1 := Lib.hid T0.out.drew
  have U1 := Lib.hid ((Turned.refl (fun _ => False) w0).drew)
  have hS : w0.drew.cell? ⟨bl, 0, none⟩ = some (.pointer (some ⟨L, 0, none⟩)) := xb
  generalize w0.drew = v0 at *
  (refine wpSegs_take (v := ?_) hS rfl (fun w' hw => ?_) ?_; rotate_left; (focus (go_simp; (try with_reducible rfl); done)); try simp only [Act.put, List.setIfInBounds_toArray, List.set_cons_zero, List.set_cons_succ])
  (refine wpSegs_take (v := ?_) hS rfl (fun w' hw => ?_) ?_; rotate_left; (focus (go_simp; (try with_reducible rfl); done)); try simp only [Act.put, List.setIfInBounds_toArray, List.set_cons_zero, List.set_cons_succ])
  refine wpSegs_run rfl (fun K hK => ?_)
  go_simp
  refine (HSf.out _ T1.out).mono ?_
  rintro e v1 ⟨rfl, t1⟩
  have T2 := Lib.hid (T1.out.trans (W := fun _ => False) t1 (fun _ e => e) (fun _ e => e.elim))
  have U2 := Lib.hid (U1.out.trans (W := fun _ => False) t1 (fun _ e => e) (fun _ e => e.elim))
  have hS := cell_turned t1 hS (fun e => e)
  clear t1
  refine hK.out _ _ hS ?_
  clear hK K
  try simp only [Act.put, List.setIfInBounds_toArray, List.set_cons_zero, List.set_cons_succ]
  refine wpSegs_run rfl (fun K hK => ?_)
  go_simp
  refine (HE.out _ T2.out).mono ?_
  rintro e v2 ⟨rfl, t2⟩
  have T3 := Lib.hid (T2.out.trans (W := fun _ => False) t2 (fun _ e => e) (fun _ e => e.elim))
  have U3 := Lib.hid (U2.out.trans (W := fun _ => False) t2 (fun _ e => e) (fun _ e => e.elim))
  have hS := cell_turned t2 hS (fun e => e)
  clear t2
  refine hK.out _ _ hS ?_
  clear hK K
  try simp only [Act.put, List.setIfInBounds_toArray, List.set_cons_zero, List.set_cons_succ]
  (refine wpSegs_take (v := ?_) hS rfl (fun w' hw => ?_) ?_; rotate_left; (focus (go_simp; (try with_reducible rfl); done)); try simp only [Act.put, List.setIfInBounds_toArray, List.set_cons_zero, List.set_cons_succ])
  (refine wpSegs_take (v := ?_) hS rfl (fun w' hw => ?_) ?_; rotate_left; (focus (go_simp; (try with_reducible rfl); done)); try simp only [Act.put, List.setIfInBounds_toArray, List.set_cons_zero, List.set_cons_succ])
  refine wpSegs_nil ?_
  clear T1 T2 U1 U2 xb HSf HE
  have xb := hS
  clear hS
  have x0 : v2.cell? ⟨L, 0, none⟩ = some (.pointer (some ⟨d, 0, none⟩)) := (HL.out.fresh T3.out).read.d0
  go_wp2_with fail
  have s3 := T3.out.size
  have h1 := Hbl.out
  have h2 := HL.out.sht.blk.lt
  have h3 := HB.out
  simp only at h2
  have hrg : ¬ (v2.heap.size = g ∨ dskW d ms mo v2.heap.size) := fun e => by
    rcases e with e | e
    · omega
    · have := HdB.out _ e; omega
  have hbg : ¬ (bl = g ∨ dskW d ms mo bl) := fun e => by
    rcases e with e | e
    · omega
    · have := HdB.out _ e; omega
  have HR := Lib.hid hrg
  have HG := Lib.hid hbg
  clear h1 h2 h3 s3 hrg hbg
  have hr0 : RowF (v2.alloc (.cells #[.func (.func 45) #[] #[.pointer (some ⟨bl, 0, none⟩)], .func (.func 47) #[.pointer (some ⟨d, 0, none⟩)] #[], .func (.func 48) #[] #[.pointer (some ⟨bl, 0, none⟩)]] 49)) v2.heap.size bl d := ⟨(Blk.new v2 _ _).cell 0, (Blk.new v2 _ _).cell 1, (Blk.new v2 _ _).cell 2⟩
  have tv := (Turned.refl (fun _ => False) v2).alloc (.cells #[.func (.func 45) #[] #[.pointer (some ⟨bl, 0, none⟩)], .func (.func 47) #[.pointer (some ⟨d, 0, none⟩)] #[], .func (.func 48) #[] #[.pointer (some ⟨bl, 0, none⟩)]] 49)
  have hb0 := cell_turned tv xb (fun e => e)
  have T4 := Lib.hid (T3.out.trans (W := fun _ => False) tv (fun _ e => e) (fun _ e => e.elim))
  clear xb x0 tv
  generalize v2.alloc (.cells #[.func (.func 45) #[] #[.pointer (some ⟨bl, 0, none⟩)], .func (.func 47) #[.pointer (some ⟨d, 0, none⟩)] #[], .func (.func 48) #[] #[.pointer (some ⟨bl, 0, none⟩)]] 49) = v3 at *
  generalize v2.heap.size = r at *
  refine (leach_any r bl d (fun w' => IsDisk w' d ms mo (A.write (first + num % count) (shtL num turn bef body)) ∧ LogW w' B ⟨L, d, Sb, g, gb, first, count, turn, oldest, 0, cS, ps, Al, cl, ls, num, turn, bef, used, safe, body, c, lost⟩ ∧ Turned (fun i => i = g ∨ dskW d ms mo i) v3 w') (fun w' => IsDisk w' d ms mo (A.write (first + num % count) (shtL num turn bef body)).sync ∧ LogW w' B ⟨L, d, Sb, g, gb, first, count, turn, oldest, 0, cS, ps, Al, cl, ls, num, turn, bef, used, safe, body, c, lost⟩ ∧ Turned (fun i => i = g ∨ dskW d ms mo i) v3 w') (fun w' => IsDisk w' d ms mo (A.write (first + num % count) (shtL num turn bef body)).sync ∧ LogW w' B ⟨L, d, Sb, g, gb, first, count, turn, oldest, 0, cS, ps, Al, cl, ls, num, turn, bef, used, (body.length : Int), body, c, false⟩ ∧ Turned (fun i => i = g ∨ dskW d ms mo i) v3 w') v3 hr0 (fun w' p => ⟨cell_turned p.2.2 hr0.1 HR.out, cell_turned p.2.2 hr0.2.1 HR.out, cell_turned p.2.2 hr0.2.2 HR.out⟩) (fun w' p => ⟨cell_turned p.2.2 hr0.1 HR.out, cell_turned p.2.2 hr0.2.1 HR.out, cell_turned p.2.2 hr0.2.2 HR.out⟩) ?_ ?_ ?_).mono ?_
  · refine (H1.out v3 T4.out bl hb0).mono ?_
    rintro e w5 ⟨rfl, d5, l5, t5⟩
    exact ⟨by rw [har2.out]; rfl, d5, l5, t5⟩
  · intro w5 p
    refine (HY.out w5 p.1).mono ?_
    rintro e w6 ⟨rfl, d6, t6⟩
    exact ⟨rfl, d6, p.2.1.far t6 (fun i hi e => by have := HdB.out i e; omega), p.2.2.trans t6 (fun _ e => e) (fun _ e => .inl (.inr e))⟩
  · intro w6 p
    refine (H2.out w6 bl p.2.1 (cell_turned p.2.2 hb0 HG.out)).mono ?_
    rintro e w7 ⟨rfl, l7, t7⟩
    have hgB : B ≤ g := HL.out.bg
    exact ⟨rfl, p.1.turned t7 (fun q hq e => by have h1 := HdB.out q hq; have h2 : q = g := e; omega), l7, p.2.2.trans t7 (fun _ e => e) (fun _ e => .inl (.inl e))⟩
  · rintro e w8 ⟨rfl, d8, l8, t8⟩
    have D8 := Lib.hid d8
    have L8 := Lib.hid l8
    have T8 := Lib.hid ((T4.out.mono (W' := (fun i => i = g ∨ dskW d ms mo i)) (fun _ e => e.elim)).trans t8 (fun _ e => e) (fun _ e => .inl e))
    clear d8 l8 t8
    go_wp2_with fail
    go_ret
    exact ⟨rfl, D8.out, L8.out, T8.out⟩
end Go.Proofs.YtfheikmjjijdpaaDoor
