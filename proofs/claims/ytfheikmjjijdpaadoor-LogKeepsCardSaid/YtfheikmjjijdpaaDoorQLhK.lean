/-
  ytfheikmjjijdpaadoor: laws and walks on the road to LogKeeps, joined: RecK LhK. Conditions stand at each theorem.
-/
import Derived.Test.YtfheikmjjijdpaaDoorQRecF
import Derived.Test.YtfheikmjjijdpaaDoorQOwn
import Derived.Deep.QuietTactic
import Derived.BigQuiet
import Derived.Test.YtfheikmjjijdpaaDoorQLhU
namespace Go.Proofs.YtfheikmjjijdpaaDoor
open Go.RowKit Go.Maps
set_option linter.unusedVariables false
set_option linter.unusedSimpArgs false

def DrwRel (n : Nat) (w : World) (i : Value) (wr : World) : Prop := ∃ j k : Nat, j ≤ n ∧ i = .int .i64 j ∧ wr = w.drewN k
theorem SlP.drewN {w : World} {s : Sl} {l : List (Int × Int)} (h : SlP w s l) (k : Nat) : SlP (w.drewN k) s l := h.fresh ((Turned.refl _ w).drewN k)
theorem RecAt.fresh {w w' : World} {b : Nat} {R : Rec} {S : RecS} (h : RecAt w b R S) (ht : Turned (fun _ => False) w w') : RecAt w' b R S :=
  ⟨cell_turned ht h.c0 (fun e => e), cell_turned ht h.c1 (fun e => e), cell_turned ht h.c2 (fun e => e), cell_turned ht h.c3 (fun e => e), cell_turned ht h.c4 (fun e => e), cell_turned ht h.c5 (fun e => e), cell_turned ht h.c6 (fun e => e), cell_turned ht h.c7 (fun e => e), cell_turned ht h.c8 (fun e => e), cell_turned ht h.c9 (fun e => e), cell_turned ht h.c10 (fun e => e)⟩
set_option maxRecDepth 100000 in
set_option maxHeartbeats 1000000 in
theorem sameD_any (a b : Sl) (l : List (Int × Int)) (w : World) (ha : SlP w a l) (hb : SlP w b l) : Calls Tryd.prog 69 #[.slice a.A a.n a.c, .slice b.A b.n b.c] w (RetDraw (.bool true) w) := by
  obtain ⟨A, n, c⟩ := a
  obtain ⟨B, m, d⟩ := b
  have h1 := ha.len
  have h2 := hb.len
  have hn := ha.few
  simp only at h1 h2 hn ⊢
  obtain rfl : n = m := by omega
  have ha' := Lib.hid ha
  have hb' := Lib.hid hb
  clear ha hb h1 h2
  go_enter Tryd.func69, Tryd.ntmps69
  go_wp2
  go_loopw [5] (fun i wr => DrwRel n w i wr) (fun i _ => n - (intOf i).toNat)
  case atStart => exact ⟨0, 0, by omega, rfl, rfl⟩
  case round =>
    obtain ⟨j, k, hj, rfl, hwr⟩ := hrel
    by_cases hlt : j < n
    · have hji : (j : Int) < (n : Int) := by omega
      obtain ⟨ba, oa, hA, hca⟩ := (ha'.out.drewN k).cells (show 0 < n by omega)
      obtain ⟨bb, ob, hB, hcb⟩ := (hb'.out.drewN k).cells (show 0 < n by omega)
      simp only at hA hB
      subst hA hB
      obtain ⟨q1, q2⟩ := hca j hlt
      obtain ⟨q3, q4⟩ := hcb j hlt
      rw [← hwr] at q1 q2 q3 q4
      have hwr' := Lib.hid hwr
      clear hca hcb hwr
      generalize fstAt l j = x at *
      generalize sndAt l j = y at *
      go_wp2
      go_quiet (fail)
      go_wp2
      go_roundw
      case rel =>
        first
        | exact ⟨j + 1, k + nq, by omega, by go_num, by rw [hwr'.out, World.drewN_drewN]⟩
        | ((repeat apply Exists.intro); exact ⟨⟨j + 1, k + nq, by omega, by go_num, by rw [hwr'.out, World.drewN_drewN]⟩, rfl⟩)
      case measure => simp [intOf] <;> omega
    · have hge : (n : Int) ≤ (j : Int) := by omega
      have hwr' := Lib.hid hwr
      clear hwr
      go_wp2
      go_ret
      exact ⟨rfl, k, hwr'.out⟩
set_option maxRecDepth 100000 in
set_option maxHeartbeats 1000000 in
theorem sameO_any (a b : Sl) (l : List (Int × Int)) (w : World) (ha : SlP w a l) (hb : SlP w b l) : Calls Tryd.prog 70 #[.slice a.A a.n a.c, .slice b.A b.n b.c] w (RetDraw (.bool true) w) := by
  obtain ⟨A, n, c⟩ := a
  obtain ⟨B, m, d⟩ := b
  have h1 := ha.len
  have h2 := hb.len
  have hn := ha.few
  simp only at h1 h2 hn ⊢
  obtain rfl : n = m := by omega
  have ha' := Lib.hid ha
  have hb' := Lib.hid hb
  clear ha hb h1 h2
  go_enter Tryd.func70, Tryd.ntmps70
  go_wp2
  go_loopw [5] (fun i wr => DrwRel n w i wr) (fun i _ => n - (intOf i).toNat)
  case atStart => exact ⟨0, 0, by omega, rfl, rfl⟩
  case round =>
    obtain ⟨j, k, hj, rfl, hwr⟩ := hrel
    by_cases hlt : j < n
    · have hji : (j : Int) < (n : Int) := by omega
      obtain ⟨ba, oa, hA, hca⟩ := (ha'.out.drewN k).cells (show 0 < n by omega)
      obtain ⟨bb, ob, hB, hcb⟩ := (hb'.out.drewN k).cells (show 0 < n by omega)
      simp only at hA hB
      subst hA hB
      obtain ⟨q1, q2⟩ := hca j hlt
      obtain ⟨q3, q4⟩ := hcb j hlt
      rw [← hwr] at q1 q2 q3 q4
      have hwr' := Lib.hid hwr
      clear hca hcb hwr
      generalize fstAt l j = x at *
      generalize sndAt l j = y at *
      go_wp2
      go_quiet (fail)
      go_wp2
      go_roundw
      case rel =>
        first
        | exact ⟨j + 1, k + nq, by omega, by go_num, by rw [hwr'.out, World.drewN_drewN]⟩
        | ((repeat apply Exists.intro); exact ⟨⟨j + 1, k + nq, by omega, by go_num, by rw [hwr'.out, World.drewN_drewN]⟩, rfl⟩)
      case measure => simp [intOf] <;> omega
    · have hge : (n : Int) ≤ (j : Int) := by omega
      have hwr' := Lib.hid hwr
      clear hwr
      go_wp2
      go_ret
      exact ⟨rfl, k, hwr'.out⟩
set_option maxRecDepth 100000 in
set_option maxHeartbeats 1000000 in
theorem sameT_any (K O N K2 O2 N2 : Sl) (key old new : List Int) (w : World) (h1 : SlB w K key) (h2 : SlB w O old) (h3 : SlB w N new) (k1 : SlB w K2 key) (k2 : SlB w O2 old) (k3 : SlB w N2 new) :
    Calls Tryd.prog 68 #[.agg #[.slice K.A K.n K.c, .slice O.A O.n O.c, .slice N.A N.n N.c], .agg #[.slice K2.A K2.n K2.c, .slice O2.A O2.n O2.c, .slice N2.A N2.n N2.c]] w (RetNew (.bool true) w) := by
  obtain ⟨KA, Kn, Kc⟩ := K
  obtain ⟨OA, On, Oc⟩ := O
  obtain ⟨NA, Nn, Nc⟩ := N
  obtain ⟨LA, Ln, Lc⟩ := K2
  obtain ⟨PA, Pn, Pc⟩ := O2
  obtain ⟨MA, Mn, Mc⟩ := N2
  have H1 := Lib.hid (fun (w' : World) (t : Turned (fun _ => False) w w') => same_yes KA LA Kn Ln Kc Lc key key w' (h1.fresh t).bytS.toBytR (k1.fresh t).bytS.toBytR rfl)
  have H2 := Lib.hid (fun (w' : World) (t : Turned (fun _ => False) w w') => same_yes OA PA On Pn Oc Pc old old w' (h2.fresh t).bytS.toBytR (k2.fresh t).bytS.toBytR rfl)
  have H3 := Lib.hid (fun (w' : World) (t : Turned (fun _ => False) w w') => same_yes NA MA Nn Mn Nc Mc new new w' (h3.fresh t).bytS.toBytR (k3.fresh t).bytS.toBytR rfl)
  have T0 := Lib.hid (((Turned.refl (fun _ => False) w).alloc (.cells #[.slice KA Kn Kc, .slice OA On Oc, .slice NA Nn Nc] 35)).alloc (.cells #[.slice LA Ln Lc, .slice PA Pn Pc, .slice MA Mn Mc] 35))
  clear h1 h2 h3 k1 k2 k3
  simp only
  go_enter Tryd.func68, Tryd.ntmps68
  go_wp2_with fail
  refine (H1.out _ T0.out).mono ?_
  rintro e w1 ⟨rfl, n1, rfl⟩
  go_wp2_with fail
  refine (H2.out _ (T0.out.drewN n1)).mono ?_
  rintro e w2 ⟨rfl, n2, rfl⟩
  go_wp2_with fail
  refine (H3.out _ (T0.out.drewN (n1 + n2))).mono ?_
  rintro e w3 ⟨rfl, n3, rfl⟩
  go_wp2_with fail
  go_ret
  exact ⟨rfl, T0.out.drewN _⟩
set_option maxRecDepth 100000 in
set_option maxHeartbeats 4000000 in
theorem sameR_any (R : Rec) (S1 S2 : RecS) (w : World) (h1 : RecIs w R S1) (h2 : RecIs w R S2) : Calls Tryd.prog 50 #[.agg (recC R S1), .agg (recC R S2)] w (RetNew (.bool true) w) := by
  have HT := Lib.hid (fun (w' : World) (t : Turned (fun _ => False) w w') => sameT_any S1.K S1.O S1.N S2.K S2.O S2.N R.key R.old R.new w' (h1.key.fresh t) (h1.old.fresh t) (h1.new.fresh t) (h2.key.fresh t) (h2.old.fresh t) (h2.new.fresh t))
  have HD := Lib.hid (fun (w' : World) (t : Turned (fun _ => False) w w') => sameD_any S1.D S2.D R.dirty w' (h1.dirty.fresh t) (h2.dirty.fresh t))
  have HO := Lib.hid (fun (w' : World) (t : Turned (fun _ => False) w w') => sameO_any S1.P S2.P R.opn w' (h1.opn.fresh t) (h2.opn.fresh t))
  clear h1 h2
  obtain ⟨lsn, work, prev, next, kind, page, key, old, new, dirty, opn⟩ := R
  obtain ⟨⟨KA, Kn, Kc⟩, ⟨OA, On, Oc⟩, ⟨NA, Nn, Nc⟩, ⟨DA, Dn, Dc⟩, ⟨PA, Pn, Pc⟩⟩ := S1
  obtain ⟨⟨KA2, Kn2, Kc2⟩, ⟨OA2, On2, Oc2⟩, ⟨NA2, Nn2, Nc2⟩, ⟨DA2, Dn2, Dc2⟩, ⟨PA2, Pn2, Pc2⟩⟩ := S2
  have B1 := Blk.new w 39 (recC ⟨lsn, work, prev, next, kind, page, key, old, new, dirty, opn⟩ ⟨⟨KA, Kn, Kc⟩, ⟨OA, On, Oc⟩, ⟨NA, Nn, Nc⟩, ⟨DA, Dn, Dc⟩, ⟨PA, Pn, Pc⟩⟩)
  have t1 := (Turned.refl (fun _ => False) w).alloc (.cells (recC ⟨lsn, work, prev, next, kind, page, key, old, new, dirty, opn⟩ ⟨⟨KA, Kn, Kc⟩, ⟨OA, On, Oc⟩, ⟨NA, Nn, Nc⟩, ⟨DA, Dn, Dc⟩, ⟨PA, Pn, Pc⟩⟩) 39)
  have B2 := Blk.new_at (k := w.heap.size + 1) (w.alloc (.cells (recC ⟨lsn, work, prev, next, kind, page, key, old, new, dirty, opn⟩ ⟨⟨KA, Kn, Kc⟩, ⟨OA, On, Oc⟩, ⟨NA, Nn, Nc⟩, ⟨DA, Dn, Dc⟩, ⟨PA, Pn, Pc⟩⟩) 39)) 39 (recC ⟨lsn, work, prev, next, kind, page, key, old, new, dirty, opn⟩ ⟨⟨KA2, Kn2, Kc2⟩, ⟨OA2, On2, Oc2⟩, ⟨NA2, Nn2, Nc2⟩, ⟨DA2, Dn2, Dc2⟩, ⟨PA2, Pn2, Pc2⟩⟩) (by simp)
  have t2 := (Turned.refl (fun _ => False) (w.alloc (.cells (recC ⟨lsn, work, prev, next, kind, page, key, old, new, dirty, opn⟩ ⟨⟨KA, Kn, Kc⟩, ⟨OA, On, Oc⟩, ⟨NA, Nn, Nc⟩, ⟨DA, Dn, Dc⟩, ⟨PA, Pn, Pc⟩⟩) 39))).alloc (.cells (recC ⟨lsn, work, prev, next, kind, page, key, old, new, dirty, opn⟩ ⟨⟨KA2, Kn2, Kc2⟩, ⟨OA2, On2, Oc2⟩, ⟨NA2, Nn2, Nc2⟩, ⟨DA2, Dn2, Dc2⟩, ⟨PA2, Pn2, Pc2⟩⟩) 39)
  have A1 := Lib.hid ((RecAt.of_blk B1).fresh t2)
  have A2 := Lib.hid (RecAt.of_blk B2)
  have T0 := Lib.hid (t1.and_ t2)
  clear B1 B2 t1 t2
  unfold recC at *
  simp only at HT HD HO A1 A2 T0 ⊢
  go_enter Tryd.func50, Tryd.ntmps50
  go_wp2_with fail
  generalize (w.alloc (.cells #[.int .i64 lsn, .int .i64 work, .int .i64 prev, .int .i64 next, .int .u8 kind, .int .i64 page, .slice KA Kn Kc, .slice OA On Oc, .slice NA Nn Nc, .slice DA Dn Dc, .slice PA Pn Pc] 39)).alloc (.cells #[.int .i64 lsn, .int .i64 work, .int .i64 prev, .int .i64 next, .int .u8 kind, .int .i64 page, .slice KA2 Kn2 Kc2, .slice OA2 On2 Oc2, .slice NA2 Nn2 Nc2, .slice DA2 Dn2 Dc2, .slice PA2 Pn2 Pc2] 39) = w0 at *
  refine (HT.out w0 T0.out).mono ?_
  rintro e w1 ⟨rfl, t1⟩
  have U1 := Lib.hid t1
  have T1 := Lib.hid (T0.out.and_ t1)
  clear t1
  obtain ⟨c0, c1, c2, c3, c4, c5, c6, c7, c8, c9, c10⟩ := A1.out.fresh U1.out
  simp only at c0 c1 c2 c3 c4 c5 c6 c7 c8 c9 c10
  obtain ⟨d0, d1, d2, d3, d4, d5, d6, d7, d8, d9, d10⟩ := A2.out.fresh U1.out
  simp only at d0 d1 d2 d3 d4 d5 d6 d7 d8 d9 d10
  go_wp2_with fail
  refine (HD.out w1 T1.out).mono ?_
  rintro e w2 ⟨rfl, n2, rfl⟩
  go_wp2_with fail
  refine (HO.out _ (T1.out.drewN n2)).mono ?_
  rintro e w3 ⟨rfl, n3, rfl⟩
  go_wp2_with fail
  go_ret
  exact ⟨rfl, T1.out.drewN _⟩
end Go.Proofs.YtfheikmjjijdpaaDoor

namespace Go.Proofs.YtfheikmjjijdpaaDoor
open Go.RowKit Go.Maps Go.Proofs
set_option linter.unusedVariables false
set_option linter.unusedSimpArgs false

set_option maxRecDepth 100000 in
theorem mold_any (X : LgM) (w : World) (h : LogM w X) : Calls Tryd.prog 19 #[.pointer (some ⟨X.L, 0, none⟩)] w (RetNew (.int .i64 X.oldest) w) := by
  have x0 : w.cell? ⟨X.L, 0, none⟩ = some (.pointer (some ⟨X.d, 0, none⟩)) := h.blk.cell 0
  have x4 : w.cell? ⟨X.L, 4, none⟩ = some (.int .i64 X.oldest) := h.blk.cell 4
  clear h
  go_enter Tryd.func19, Tryd.ntmps19
  go_wp2_with fail
  refine (lthere_yes X.L X.d w x0).mono ?_
  rintro e w1 ⟨rfl, rfl⟩
  go_wp2_with fail
  go_ret
  exact ⟨rfl, Turned.refl _ _⟩
set_option maxRecDepth 100000 in
theorem first_zero (X : LgM) (w : World) (h : LogM w X) : Calls Tryd.prog 17 #[.pointer (some ⟨X.L, 0, none⟩), .int .i64 0] w (RetNew (.int .i64 X.oldest) w) := by
  go_enter Tryd.func17, Tryd.ntmps17
  go_wp2_with fail
  refine (mold_any X w h).mono ?_
  rintro e w1 ⟨rfl, t1⟩
  have T1 := Lib.hid t1
  clear t1 h
  generalize X.oldest = ol at *
  go_wp2_with fail
  go_ret
  exact ⟨rfl, T1.out⟩
set_option maxRecDepth 100000 in
theorem first_pos (X : LgM) (n : Nat) (Rs : List Rec) (w : World) (h : LogM w X) (hn : 0 < n) (hn2 : n ≤ 1000000) (hs : X.ls.Pairwise (· ≤ ·)) (h0 : X.ls[0]? = some X.oldest) (hl : Rs.length = X.ls.length) (hfew : X.ls.length ≤ 10000)
    (hall : ∀ (j : Nat) (y : Int) (R : Rec), X.ls[j]? = some y → Rs[j]? = some R → ∃ i p s0 s rest, RecAtX X y R i p s0 s rest) : Calls Tryd.prog 17 #[.pointer (some ⟨X.L, 0, none⟩), .int .i64 n] w (RetNew (.int .i64 X.oldest) w) := by
  have HF := Lib.hid (fun (w' : World) (t : Turned (fun _ => False) w w') => hfr_any X X.oldest Rs w' (h.fresh t) hs h0 hl hfew hall)
  have hpos : 0 < X.ls.length := (List.getElem?_eq_some_iff.1 h0).1
  have hni : (0 : Int) < (n : Int) := by omega
  clear hs h0 hall
  go_enter Tryd.func17, Tryd.ntmps17
  go_wp2_with fail
  refine (mold_any X w h).mono ?_
  rintro e w1 ⟨rfl, t1⟩
  have T1 := Lib.hid t1
  clear t1 h
  go_wp2_with fail
  refine (HF.out _ T1.out).mono ?_
  rintro e w2 ⟨A, c, rows, rfl, _, hr⟩
  have T2 := Lib.hid (T1.out.and_ hr.turned)
  have hz : ((X.ls.length : Int) == 0) = false := by rw [beq_eq_false_iff_ne]; omega
  clear hr HF
  generalize X.ls.length = ln at *
  generalize X.oldest = ol at *
  go_wp2_with fail
  go_ret
  exact ⟨rfl, T2.out⟩
set_option maxRecDepth 100000 in
set_option maxHeartbeats 2000000 in
theorem alike_any (R1 R2 : Rec) (S1 S2 : RecS) (w : World) (he : R1.bare = R2.bare) (h1 : RecIs w R1 S1) (h2 : RecIs w R2 S2) : Calls Tryd.prog 22 #[.agg (recC R1 S1), .agg (recC R2 S2)] w (RetNew (.bool true) w) := by
  have HS := Lib.hid (fun (w' : World) (t : Turned (fun _ => False) w w') => sameR_any R1.bare S1 S2 w' ⟨(h1.fresh t).key, (h1.fresh t).old, (h1.fresh t).new, (h1.fresh t).dirty, (h1.fresh t).opn⟩ (by rw [he]; exact ⟨(h2.fresh t).key, (h2.fresh t).old, (h2.fresh t).new, (h2.fresh t).dirty, (h2.fresh t).opn⟩))
  clear h1 h2
  obtain ⟨lsn1, work1, prev1, next1, kind1, page1, key1, old1, new1, dirty1, opn1⟩ := R1
  obtain ⟨lsn2, work2, prev2, next2, kind2, page2, key2, old2, new2, dirty2, opn2⟩ := R2
  obtain ⟨⟨KA1, Kn1, Kc1⟩, ⟨OA1, On1, Oc1⟩, ⟨NA1, Nn1, Nc1⟩, ⟨DA1, Dn1, Dc1⟩, ⟨PA1, Pn1, Pc1⟩⟩ := S1
  obtain ⟨⟨KA2, Kn2, Kc2⟩, ⟨OA2, On2, Oc2⟩, ⟨NA2, Nn2, Nc2⟩, ⟨DA2, Dn2, Dc2⟩, ⟨PA2, Pn2, Pc2⟩⟩ := S2
  unfold Rec.bare at he HS
  unfold recC at *
  simp only [Rec.mk.injEq, true_and] at he
  obtain ⟨rfl, rfl, rfl, rfl, rfl, rfl, rfl, rfl, rfl, rfl⟩ := he
  simp only at HS ⊢
  go_enter Tryd.func22, Tryd.ntmps22
  go_wp2_with fail
  refine (HS.out _ (((Turned.refl (fun _ => False) w).alloc _).alloc _)).mono ?_
  rintro e w3 ⟨rfl, t3⟩
  have T3 := Lib.hid ((((Turned.refl (fun _ => False) w).alloc _).alloc _).and_ t3)
  clear t3
  go_wp2_with fail
  go_ret
  exact ⟨rfl, T3.out⟩
end Go.Proofs.YtfheikmjjijdpaaDoor

