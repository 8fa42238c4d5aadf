/-
  ytfheikmjjijdpaadoor: laws and walks on the road to LogKeeps, joined: LhT LhU. Conditions stand at each theorem.
-/
import Derived.Test.YtfheikmjjijdpaaDoorQLhS
import Derived.Deep.DrawnRows
namespace Go.Proofs.YtfheikmjjijdpaaDoor
open Go.RowKit Go.Maps Go.Proofs
set_option linter.unusedVariables false
set_option linter.unusedSimpArgs false

def trimX (X : LgM) (k i : Nat) (x : Int) (al ao : Nat) : LgM := { X with oldest := x, So := X.So + i, cS := X.cS - i, Al := some ⟨al, ao + k, none⟩, cl := X.cl - k, ls := X.ls.drop k, shs := X.shs.drop i }
/-- What stands behind it, where only the log's own block turned. -/
theorem LogM.trim {w w' : World} {X : LgM} {k i al ao : Nat} {x : Int} (h : LogM w X) (hA : X.Al = some ⟨al, ao, none⟩) (hk : k ≤ X.ls.length) (hi : i ≤ X.shs.length) (ht : Turned (fun q => q = X.L) w w')
    (hB : Blk w' X.L 65 (logC X.d X.first X.count X.turn x (some ⟨X.S, X.So + i, none⟩) (X.shs.length - i) (X.cS - i) (some ⟨al, ao + k, none⟩) (X.ls.length - k) (X.cl - k))) :
    LogM w' (trimX X k i x al ao) ∧ OwnStep X (trimX X k i x al ao) w w' := by
  have hsub : ∀ s ∈ X.shs.drop i, s ∈ X.shs := fun s hs => List.mem_of_mem_drop hs
  have hls : (X.ls.drop k).length = X.ls.length - k := List.length_drop
  have hsl : (X.shs.drop i).length = X.shs.length - i := List.length_drop
  have hL := h.lsn
  rw [hA] at hL
  refine ⟨⟨?_, ?_, ?_, fun s hs => ?_, ?_, ?_, h.cB, ?_, fun s hs => h.nB s (hsub s hs), fun s hs => h.hB s (hsub s hs), ?_⟩, ⟨ht.mono (fun q e => .inl (.inl e)), fun q hq => ?_⟩⟩
  · show Blk w' X.L _ (logC X.d X.first X.count X.turn x (some ⟨X.S, X.So + i, none⟩) (X.shs.drop i).length (X.cS - i) (some ⟨al, ao + k, none⟩) (X.ls.drop k).length (X.cl - k))
    rw [hls, hsl]; exact hB
  · show RowO w' _ 1 X.S (X.So + i) (X.shs.drop i).length (X.cS - i) ((X.shs.drop i).map ShM.ptr)
    have := (h.row.turned ht (fun e => h.gLA.1 e.symm)).drop (k := i) hi
    rw [Nat.mul_one] at this
    rw [hsl, List.map_drop]; exact this
  · show OwnO w' _ 1 (some ⟨al, ao + k, none⟩) (X.ls.drop k).length (X.cl - k) (i64s (X.ls.drop k))
    have := (hL.turned ht (fun g o e => fun e2 => (h.gLA.2 al ao hA).1 (by injection e with e; injection e with e; rw [e]; exact e2))).drop (k := k) hk
    rw [Nat.mul_one] at this
    rw [hls]
    unfold i64s at this ⊢
    rw [List.map_drop]; exact this
  · have hm := hsub s hs
    have hg := h.gLS hm
    exact (h.sht s hm).turned ht hg.1 hg.2.2.1
  · show ((X.shs.drop i).map ShM.g).Nodup
    rw [List.map_drop]; exact h.gs.sublist (List.drop_sublist _ _)
  · show ((X.shs.drop i).map ShM.gb).Nodup
    rw [List.map_drop]; exact h.gbs.sublist (List.drop_sublist _ _)
  · show (X.shs.drop i).length ≤ 10000
    rw [hsl]; have := h.kB; omega
  · show (X.ls.drop k).length ≤ 10000000
    rw [hls]; have := h.lB; omega
  · rcases hq with e | e | ⟨o, e⟩ | ⟨s, hs, e⟩
    · exact .inl (.inl e)
    · exact .inl (.inr (.inl e))
    · have e2 : (some ⟨al, ao + k, none⟩ : Option Addr) = some ⟨q, o, none⟩ := e
      injection e2 with e2
      injection e2 with e2
      exact .inl (.inr (.inr (.inl ⟨ao, by rw [hA, e2]⟩)))
    · exact .inl (.inr (.inr (.inr ⟨s, hsub s hs, e⟩)))
def HTrim (X X' : LgM) (w : World) (e : Ending) (w' : World) : Prop := e = .returned (.int .i64 0) ∧ LogM w' X' ∧ OwnStep X X' w w'
def TrRel (X : LgM) (x : Int) (k i al ao : Nat) (w wr : World) : Prop := ∃ j, j ≤ i ∧ Turned (fun q => q = X.L) w wr ∧ Blk wr X.L 65 (logC X.d X.first X.count X.turn x (some ⟨X.S, X.So + j, none⟩) (X.shs.length - j) (X.cS - j) (some ⟨al, ao + k, none⟩) (X.ls.length - k) (X.cl - k))
def shN (L : Nat) (w : World) : Nat := match w.cell? ⟨L, 5, none⟩ with | some (.slice _ n _) => n | _ => 0
theorem logC_set4 (d : Nat) (first count turn oldest oldest' : Int) (As : Option Addr) (k cS : Nat) (Al : Option Addr) (nl cl : Nat) : (logC d first count turn oldest As k cS Al nl cl).setIfInBounds 4 (.int .i64 oldest') = logC d first count turn oldest' As k cS Al nl cl := by unfold logC; simp only [List.setIfInBounds_toArray, List.set_cons_zero, List.set_cons_succ]
set_option maxRecDepth 100000 in
set_option maxHeartbeats 2000000 in
theorem mtrim_any (X : LgM) (x : Int) (k i al ao : Nat) (w : World) (h : LogM w X) (hs : X.ls.Pairwise (· ≤ ·)) (hx : X.ls[k]? = some x) (hkc : X.ls.countP (· < x) = k) (hAl : X.Al = some ⟨al, ao, none⟩) (hxr : 1 ≤ x ∧ x ≤ 9223372036854775000)
    (hi : i < X.shs.length) (hdrop : ∀ j t, 1 ≤ j → j ≤ i → X.shs[j]? = some t → t.num * 512 + 1 ≤ x) (hstop : ∀ t, X.shs[i + 1]? = some t → x < t.num * 512 + 1) :
    Calls Tryd.prog 18 #[.pointer (some ⟨X.L, 0, none⟩), .int .i64 x] w (HTrim X (trimX X k i x al ao) w) := by
  have hct : X.ls.contains x = true := by simpa using List.mem_of_getElem? hx
  have hk : k < X.ls.length := (List.getElem?_eq_some_iff.1 hx).1
  have HT := Lib.hid (fun (w' : World) (j : Nat) (hj : j ≤ X.shs.length) (ht : Turned (fun q => q = X.L) w w') hB => h.trim (k := k) (i := j) (x := x) hAl (Nat.le_of_lt hk) hj ht hB)
  have D0 := Lib.hid (And.intro h.blk (And.intro h.lsn (And.intro h.row (And.intro h.sht h.nB))))
  have hmx := h.lsn.max
  have hSm := h.row.le
  have hlB := h.lB
  have hkB := h.kB
  have hLS := Lib.hid (fun t ht => (h.gLS (s := t) ht).1)
  have hLA := Lib.hid h.gLA
  have HD := Lib.hid hdrop
  have HSt := Lib.hid hstop
  have HS := Lib.hid hs
  clear h hdrop hstop hs hx
  obtain ⟨L, d, first, count, turn, oldest, Sb, So, cS, Al, cl, ls, shs⟩ := X
  simp only at *
  subst hAl
  go_enter Tryd.func18, Tryd.ntmps18
  go_wp2_with fail
  refine (lthere_yes L d w (D0.out.1.cell 0)).mono ?_
  rintro e w1 ⟨rfl, rfl⟩
  have x6 : w.cell? ⟨L, 6, none⟩ = some (.slice (some ⟨al, ao, none⟩) ls.length cl) := D0.out.1.cell 6
  go_wp2_with fail
  have hq := hsearch_any (some ⟨al, ao, none⟩) ls.length cl ls x w D0.out.2.1 rfl hlB HS.out
  rw [hkc, hct] at hq
  refine hq.mono ?_
  clear hq x6 hkc hct
  rintro e w1 ⟨rfl, q, rfl⟩
  have T1 := Lib.hid ((Turned.refl (fun q => q = L) w).drewN q)
  have B1 := Lib.hid (D0.out.1.turned ((Turned.refl (fun _ => False) w).drewN q) (fun e => e))
  generalize w.drewN q = w1 at *
  have x6 : w1.cell? ⟨L, 6, none⟩ = some (.slice (some ⟨al, ao, none⟩) ls.length cl) := B1.out.cell 6
  have f4 : w1.frozen? ⟨L, 4, none⟩ = false := B1.out.frozen 4
  have f6 : w1.frozen? ⟨L, 6, none⟩ = false := B1.out.frozen 6
  have x4 : w1.cell? ⟨L, 4, none⟩ = some (.int .i64 oldest) := B1.out.cell 4
  obtain ⟨nl, hnl⟩ : ∃ nl, nl = ls.length := ⟨_, rfl⟩
  rw [← hnl] at x6 hk hmx hlB
  have hki : (k : Int) ≤ (nl : Int) := by omega
  have hkc : k ≤ cl := by omega
  have hkn : k ≤ nl := by omega
  have hkcl : ¬ cl = k := by omega
  have hk7 : (k : Int) ≤ 10000000 := by omega
  go_wp2_with fail
  go_region
  have hB2 := (B1.out.set_ 4 (.int .i64 x)).set_ 6 (.slice (some ⟨al, ao + k, none⟩) (ls.length - k) (cl - k))
  rw [logC_set4, logC_set6] at hB2
  have T2 := Lib.hid (((T1.out.setCell (p := ⟨L, 4, none⟩) (.inl rfl) (.int .i64 x)).setCell (p := ⟨L, 6, none⟩) (.inl rfl) (.slice (some ⟨al, ao + k, none⟩) (ls.length - k) (cl - k))).drew)
  have B2 := Lib.hid (hB2.turned (Turned.refl (fun _ => False) _).drew (fun e => e))
  clear hB2 x6 f4 f6 x4
  generalize ((w1.setCell ⟨L, 4, none⟩ (.int .i64 x)).setCell ⟨L, 6, none⟩ (.slice (some ⟨al, ao + k, none⟩) (ls.length - k) (cl - k))).drew = w2 at *
  have hst := Lib.hid (show TrRel ⟨L, d, first, count, turn, oldest, Sb, So, cS, some ⟨al, ao, none⟩, cl, ls, shs⟩ x k i al ao w w2 from ⟨0, by omega, T2.out, B2.out⟩)
  go_wp2_with fail
  go_loopw [] (fun wr => TrRel ⟨L, d, first, count, turn, oldest, Sb, So, cS, some ⟨al, ao, none⟩, cl, ls, shs⟩ x k i al ao w wr) (fun wr => shN L wr)
  case atStart => exact hst.out
  case round =>
    obtain ⟨j, hj, ht, hb⟩ := hrel
    simp only at hb ht
    have TT := Lib.hid ht
    have BB := Lib.hid hb
    have hji2 : j ≤ shs.length := by omega
    have HM := Lib.hid (HT.out wr j hji2 ht hb)
    have x5 : wr.cell? ⟨L, 5, none⟩ = some (.slice (some ⟨Sb, So + j, none⟩) (shs.length - j) (cS - j)) := hb.cell 5
    have f5 : wr.frozen? ⟨L, 5, none⟩ = false := hb.frozen 5
    have hsh : shN L wr = shs.length - j := by unfold shN; rw [x5]
    have HSH := Lib.hid hsh
    clear hst hsh hb ht
    obtain ⟨m, hm⟩ : ∃ m, m = shs.length - j := ⟨_, rfl⟩
    obtain ⟨cm, hcm⟩ : ∃ cm, cm = cS - j := ⟨_, rfl⟩
    rw [← hm, ← hcm] at x5
    have hmc : m ≤ cm := by omega
    have hm0 : 1 ≤ m := by omega
    have hm4 : (m : Int) ≤ 10000 := by omega
    have HMm := Lib.hid (And.intro hm hcm)
    by_cases hji : j < i
    · obtain ⟨t, ht1⟩ : ∃ t, shs[j + 1]? = some t := ⟨_, List.getElem?_eq_getElem (by omega)⟩
      have xt : wr.cell? ⟨Sb, So + j + 1, none⟩ = some (.pointer (some ⟨t.g, 0, none⟩)) := by
        have h9 := (D0.out.2.2.1.turned TT.out (fun e => hLA.out.1 e.symm)).cell (i := j + 1) (v := t.ptr) (by rw [List.getElem?_map, ht1]; rfl)
        rw [← Nat.add_assoc] at h9; exact h9
      have mt : t ∈ shs := List.mem_of_getElem? ht1
      have xn : wr.cell? ⟨t.g, 0, none⟩ = some (.int .i64 t.num) := cell_turned TT.out ((D0.out.2.2.2.1 t mt).blk.cell 0) (fun e => hLS.out t mt e)
      have hnb := D0.out.2.2.2.2 t mt
      have hle := HD.out (j + 1) t (by omega) (by omega) ht1
      have hm1 : (1 : Int) < (m : Int) := by omega
      have hm1n : 1 < m := by omega
      have hcm1 : ¬ cm = 1 := by omega
      generalize t.num = num at *
      generalize t.g = tg at *
      clear hm hcm ht1 mt
      go_wp2_with fail
      refine (llsn_any tg num 0 wr xn ⟨hnb.1, by omega⟩ (by omega)).mono ?_
      rintro e w3 ⟨rfl, rfl⟩
      have hle2 : num * 512 + 0 + 1 ≤ x := by omega
      go_wp2_with fail
      have hB3 := BB.out.set_ 5 (.slice (some ⟨Sb, So + j + 1, none⟩) (m - 1) (cm - 1))
      rw [logC_set5] at hB3
      have em : m - 1 = shs.length - (j + 1) := by have h1 := HMm.out.1; omega
      have ecm : cm - 1 = cS - (j + 1) := by have h1 := HMm.out.2; omega
      have hx5 := hB3.cell 5
      have H3 := Lib.hid (show TrRel ⟨L, d, first, count, turn, oldest, Sb, So, cS, some ⟨al, ao, none⟩, cl, ls, shs⟩ x k i al ao w (wr.setCell ⟨L, 5, none⟩ (.slice (some ⟨Sb, So + j + 1, none⟩) (m - 1) (cm - 1))) from ⟨j + 1, hji, TT.out.setCell (p := ⟨L, 5, none⟩) (.inl rfl) _, by rw [em, ecm] at hB3 ⊢; exact hB3⟩)
      have hsh2 : shN L (wr.setCell ⟨L, 5, none⟩ (.slice (some ⟨Sb, So + j + 1, none⟩) (m - 1) (cm - 1))) = m - 1 := by unfold shN; rw [hx5]; rfl
      clear hx5 hB3
      go_roundw
      case rel =>
        first
        | exact H3.out
        | ((repeat apply Exists.intro); exact ⟨H3.out, rfl⟩)
      case measure => rw [hsh2, HSH.out]; omega
    · obtain rfl : j = i := by omega
      by_cases hm1 : m = 1
      · have hm2 : ¬ (1 : Int) < (m : Int) := by omega
        go_wp2_with fail
        go_ret
        exact ⟨rfl, HM.out.1, HM.out.2⟩
      · obtain ⟨t, ht1⟩ : ∃ t, shs[j + 1]? = some t := ⟨_, List.getElem?_eq_getElem (by omega)⟩
        have xt : wr.cell? ⟨Sb, So + j + 1, none⟩ = some (.pointer (some ⟨t.g, 0, none⟩)) := by
          have h9 := (D0.out.2.2.1.turned TT.out (fun e => hLA.out.1 e.symm)).cell (i := j + 1) (v := t.ptr) (by rw [List.getElem?_map, ht1]; rfl)
          rw [← Nat.add_assoc] at h9; exact h9
        have mt : t ∈ shs := List.mem_of_getElem? ht1
        have xn : wr.cell? ⟨t.g, 0, none⟩ = some (.int .i64 t.num) := cell_turned TT.out ((D0.out.2.2.2.1 t mt).blk.cell 0) (fun e => hLS.out t mt e)
        have hnb := D0.out.2.2.2.2 t mt
        have hle := HSt.out t ht1
        have hm2 : (1 : Int) < (m : Int) := by omega
        generalize t.num = num at *
        generalize t.g = tg at *
        clear hm hcm ht1 mt
        go_wp2_with fail
        refine (llsn_any tg num 0 wr xn ⟨hnb.1, by omega⟩ (by omega)).mono ?_
        rintro e w3 ⟨rfl, rfl⟩
        have hle2 : ¬ num * 512 + 0 + 1 ≤ x := by omega
        go_wp2_with fail
        go_ret
        exact ⟨rfl, HM.out.1, HM.out.2⟩
end Go.Proofs.YtfheikmjjijdpaaDoor

namespace Go.Proofs.YtfheikmjjijdpaaDoor
open Go.RowKit Go.Maps Go.Proofs
set_option linter.unusedVariables false
set_option linter.unusedSimpArgs false

theorem mend_any (X : LgM) (init : List ShM) (s : ShM) (w : World) (h : LogM w X) (es : X.shs = init ++ [s]) : Calls Tryd.prog 25 #[.pointer (some ⟨X.L, 0, none⟩)] w (RetNew (.int .i64 (s.num * 512 + (s.body.length : Int) + 1)) w) :=
  hend_any _ _ _ _ _ _ _ _ _ _ _ _ w (h.view w (l := []) es (fun t ht => by simp at ht)).read
set_option maxRecDepth 100000 in
set_option maxHeartbeats 2000000 in
theorem msafe_all (X : LgM) (init : List ShM) (s : ShM) (w : World) (h : LogM w X) (es : X.shs = init ++ [s]) (hno : ∀ t ∈ X.shs, ¬ t.safe < (t.body.length : Int)) :
    Calls Tryd.prog 24 #[.pointer (some ⟨X.L, 0, none⟩)] w (RetNew (.int .i64 (s.num * 512 + (s.body.length : Int) + 1)) w) := by
  have HE := Lib.hid (fun (w' : World) (t : Turned (fun _ => False) w w') => mend_any X init s w' (h.fresh t) es)
  have HNO := Lib.hid hno
  clear hno es
  have D0 := Lib.hid (fun (w' : World) (t : Turned (fun _ => False) w w') => h.fresh t)
  have hmx := h.lsn.max
  have hlB := h.lB
  have hkB := h.kB
  obtain ⟨L, d, first, count, turn, oldest, Sb, So, cS, Al, cl, ls, shs⟩ := X
  simp only at *
  go_enter Tryd.func24, Tryd.ntmps24
  go_wp2_with fail
  refine (lthere_yes L d w (h.blk.cell 0)).mono ?_
  rintro e w1 ⟨rfl, rfl⟩
  obtain ⟨n, hn⟩ : ∃ n, n = shs.length := ⟨_, rfl⟩
  have HN := Lib.hid hn
  have x5 : w.cell? ⟨L, 5, none⟩ = some (.slice (some ⟨Sb, So, none⟩) n cS) := by rw [hn]; exact h.blk.cell 5
  have hn4 : (n : Int) ≤ 10000 := by omega
  clear hn h
  go_wp2_with fail
  clear x5
  go_loopw [4, 5, 6, 15] (fun _ _ _ i wr => ∃ j : Nat, j ≤ n ∧ i = .int .i64 j ∧ Turned (fun _ => False) w wr) (fun _ _ _ i _ => n - (intOf i).toNat)
  case atStart => exact ⟨0, by omega, rfl, Turned.refl _ _⟩
  case round =>
    obtain ⟨j, hj, rfl, ht⟩ := hrel
    have TT := Lib.hid ht
    clear ht
    by_cases hlt : j < n
    · skip
      obtain ⟨t, ht1⟩ : ∃ t, shs[j]? = some t := ⟨_, List.getElem?_eq_getElem (by rw [← HN.out]; omega)⟩
      have mt : t ∈ shs := List.mem_of_getElem? ht1
      have hF := D0.out _ TT.out
      have xt : wr.cell? ⟨Sb, So + j, none⟩ = some (.pointer (some ⟨t.g, 0, none⟩)) := hF.row.cell (i := j) (v := t.ptr) (by rw [List.getElem?_map, ht1]; rfl)
      have y5 : wr.cell? ⟨t.g, 5, none⟩ = some (.int .i64 t.safe) := (hF.sht t mt).blk.cell 5
      have y4 : wr.cell? ⟨t.g, 4, none⟩ = some (.slice (some ⟨t.gb, 0, none⟩) t.body.length t.c) := (hF.sht t mt).blk.cell 4
      have hno := HNO.out t mt
      have hji : (j : Int) < (n : Int) := by omega
      clear hF ht1 mt
      generalize t.safe = sf at *
      generalize t.body.length = bl at *
      generalize t.g = tg at *
      generalize t.gb = tgb at *
      generalize t.c = tc at *
      go_wp2_with fail
      go_quiet (fail)
      have TQ := Lib.hid (TT.out.drewN nq)
      clear xt y5 y4
      generalize wr.drewN nq = w2 at *
      go_wp2_with fail
      go_roundw
      case rel =>
        first
        | exact ⟨j + 1, by omega, by go_num, TQ.out⟩
        | ((repeat apply Exists.intro); exact ⟨⟨j + 1, by omega, by go_num, TQ.out⟩, rfl⟩)
      case measure => simp [intOf] <;> omega
    · have hji : ¬ (j : Int) < (n : Int) := by omega
      go_wp2_with fail
      refine (HE.out _ TT.out).mono ?_
      rintro e w2 ⟨rfl, t2⟩
      have T2 := Lib.hid (TT.out.and_ t2)
      clear t2
      go_wp2_with fail
      go_ret
      exact ⟨rfl, T2.out⟩
set_option maxRecDepth 100000 in
set_option maxHeartbeats 2000000 in
theorem msafe_some (X : LgM) (i q : Nat) (s : ShM) (vq : Int) (w : World) (h : LogM w X) (hs : X.ls.Pairwise (· ≤ ·)) (hi : X.shs[i]? = some s) (hsf : 0 ≤ s.safe ∧ s.safe < (s.body.length : Int)) (hno : ∀ j t, j < i → X.shs[j]? = some t → ¬ t.safe < (t.body.length : Int))
    (hq : X.ls.countP (· < s.num * 512 + s.safe + 1) = q) (hv : X.ls[q]? = some vq) :
    Calls Tryd.prog 24 #[.pointer (some ⟨X.L, 0, none⟩)] w (RetNew (.int .i64 vq) w) := by
  have HNO := Lib.hid hno
  have HI := Lib.hid hi
  have HS := Lib.hid hs
  have HQ := Lib.hid hq
  have HV := Lib.hid hv
  have hin : i < X.shs.length := (List.getElem?_eq_some_iff.1 hi).1
  have hql : q < X.ls.length := (List.getElem?_eq_some_iff.1 hv).1
  have hnb := h.nB s (List.mem_of_getElem? hi)
  have hbb := h.hB s (List.mem_of_getElem? hi)
  clear hno hi hs hq hv
  have D0 := Lib.hid (fun (w' : World) (t : Turned (fun _ => False) w w') => h.fresh t)
  have hmx := h.lsn.max
  have hlB := h.lB
  have hkB := h.kB
  obtain ⟨L, d, first, count, turn, oldest, Sb, So, cS, Al, cl, ls, shs⟩ := X
  simp only at *
  go_enter Tryd.func24, Tryd.ntmps24
  go_wp2_with fail
  refine (lthere_yes L d w (h.blk.cell 0)).mono ?_
  rintro e w1 ⟨rfl, rfl⟩
  obtain ⟨n, hn⟩ : ∃ n, n = shs.length := ⟨_, rfl⟩
  have HN := Lib.hid hn
  have x5 : w.cell? ⟨L, 5, none⟩ = some (.slice (some ⟨Sb, So, none⟩) n cS) := by rw [hn]; exact h.blk.cell 5
  have hn4 : (n : Int) ≤ 10000 := by omega
  clear hn h
  go_wp2_with fail
  clear x5
  rw [← HN.out] at hin
  go_loopw [4, 5, 6, 15] (fun _ _ _ i0 wr => ∃ j : Nat, j ≤ i ∧ i0 = .int .i64 j ∧ Turned (fun _ => False) w wr) (fun _ _ _ i0 _ => n - (intOf i0).toNat)
  case atStart => exact ⟨0, by omega, rfl, Turned.refl _ _⟩
  case round =>
    obtain ⟨j, hj, rfl, ht⟩ := hrel
    have TT := Lib.hid ht
    clear ht
    by_cases hlt : j < i
    · skip
      obtain ⟨t, ht1⟩ : ∃ t, shs[j]? = some t := ⟨_, List.getElem?_eq_getElem (by rw [← HN.out]; omega)⟩
      have mt : t ∈ shs := List.mem_of_getElem? ht1
      have hF := D0.out _ TT.out
      have xt : wr.cell? ⟨Sb, So + j, none⟩ = some (.pointer (some ⟨t.g, 0, none⟩)) := hF.row.cell (i := j) (v := t.ptr) (by rw [List.getElem?_map, ht1]; rfl)
      have y5 : wr.cell? ⟨t.g, 5, none⟩ = some (.int .i64 t.safe) := (hF.sht t mt).blk.cell 5
      have y4 : wr.cell? ⟨t.g, 4, none⟩ = some (.slice (some ⟨t.gb, 0, none⟩) t.body.length t.c) := (hF.sht t mt).blk.cell 4
      have hno := HNO.out j t hlt ht1
      have hji : (j : Int) < (n : Int) := by omega
      clear hF ht1 mt
      generalize t.safe = sf at *
      generalize t.body.length = bl at *
      generalize t.g = tg at *
      generalize t.gb = tgb at *
      generalize t.c = tc at *
      go_wp2_with fail
      go_quiet (fail)
      have TQ := Lib.hid (TT.out.drewN nq)
      clear xt y5 y4
      generalize wr.drewN nq = w2 at *
      go_wp2_with fail
      go_roundw
      case rel =>
        first
        | exact ⟨j + 1, by omega, by go_num, TQ.out⟩
        | ((repeat apply Exists.intro); exact ⟨⟨j + 1, by omega, by go_num, TQ.out⟩, rfl⟩)
      case measure => simp [intOf] <;> omega
    · obtain rfl : j = i := by omega
      have ht1 := HI.out
      have mt : s ∈ shs := List.mem_of_getElem? ht1
      have hF := D0.out _ TT.out
      have xt : wr.cell? ⟨Sb, So + j, none⟩ = some (.pointer (some ⟨s.g, 0, none⟩)) := hF.row.cell (i := j) (v := s.ptr) (by rw [List.getElem?_map, ht1]; rfl)
      have y5 : wr.cell? ⟨s.g, 5, none⟩ = some (.int .i64 s.safe) := (hF.sht s mt).blk.cell 5
      have y4 : wr.cell? ⟨s.g, 4, none⟩ = some (.slice (some ⟨s.gb, 0, none⟩) s.body.length s.c) := (hF.sht s mt).blk.cell 4
      obtain ⟨al, ao, eA, hrow⟩ := hF.lsn.some_ (show 0 < ls.length by omega)
      simp only at eA
      subst eA
      have hji : (j : Int) < (n : Int) := by omega
      have hsi := hsf.2
      have yq := Lib.hid (show wr.cell? ⟨al, ao + q, none⟩ = some (.int .i64 vq) from hrow.cell (by unfold i64s; rw [List.getElem?_map, HV.out]; rfl))
      have y6 : wr.cell? ⟨L, 6, none⟩ = some (.slice (some ⟨al, ao, none⟩) ls.length cl) := hF.blk.cell 6
      have HC := Lib.hid (fun (m : Nat) => hsearch_any (some ⟨al, ao, none⟩) ls.length cl ls (s.num * 512 + s.safe + 1) (wr.drewN m) (hF.fresh ((Turned.refl (fun _ => False) wr).drewN m)).lsn rfl hlB HS.out)
      rw [HQ.out] at HC
      have HL := Lib.hid (fun (m : Nat) => llsn_any s.g s.num s.safe (wr.drewN m) (((hF.fresh ((Turned.refl (fun _ => False) wr).drewN m)).sht s mt).blk.cell 0) ⟨hnb.1, by omega⟩ ⟨hsf.1, by omega⟩)
      have H5 := Lib.hid (fun (m : Nat) => (hF.fresh ((Turned.refl (fun _ => False) wr).drewN m)))
      have z5 := Lib.hid (fun (m : Nat) => (((hF.fresh ((Turned.refl (fun _ => False) wr).drewN m)).sht s mt).blk.cell 5 : (wr.drewN m).cell? ⟨s.g, 5, none⟩ = some (.int .i64 s.safe)))
      have z6 := Lib.hid (fun (m : Nat) => ((hF.fresh ((Turned.refl (fun _ => False) wr).drewN m)).blk.cell 6 : (wr.drewN m).cell? ⟨L, 6, none⟩ = some (.slice (some ⟨al, ao, none⟩) ls.length cl)))
      generalize ls.contains (s.num * 512 + s.safe + 1) = bb at HC
      have hqi : (q : Int) < (ls.length : Int) := by omega
      clear hF ht1 mt hrow HS HV HQ D0
      obtain ⟨x, hx⟩ : ∃ x, x = s.num * 512 + s.safe + 1 := ⟨_, rfl⟩
      rw [← hx] at HC HL
      clear hx
      generalize s.safe = sf at *
      generalize s.body.length = bl at *
      generalize s.g = tg at *
      generalize s.gb = tgb at *
      generalize s.c = tc at *
      go_wp2_with fail
      go_quiet (fail)
      have HS2 := Lib.hid (fun (m : Nat) => (by rw [World.drewN_drewN]; exact (HL.out (nq + m)).mono (fun _ _ ⟨he, hw⟩ => ⟨he, hw.symm⟩) : Calls Tryd.prog 35 #[.pointer (some ⟨tg, 0, none⟩), .int .i64 sf] ((wr.drewN nq).drewN m) (fun e w' => e = .returned (.int .i64 x) ∧ w' = (wr.drewN nq).drewN m)))
      have HC2 := Lib.hid (fun (m : Nat) => (by rw [World.drewN_drewN]; exact HC.out (nq + m) : Calls Tryd.prog 49 #[.slice (some ⟨al, ao, none⟩) ls.length cl, .int .i64 x] ((wr.drewN nq).drewN m) (fun e w' => e = .returned (.tuple #[.int .i64 (q : Int), .bool bb]) ∧ ∃ q, w' = ((wr.drewN nq).drewN m).drewN q)))
      have TN := Lib.hid (TT.out.drewN nq)
      have y6 : (wr.drewN nq).cell? ⟨L, 6, none⟩ = some (.slice (some ⟨al, ao, none⟩) ls.length cl) := z6.out nq
      have y5 : (wr.drewN nq).cell? ⟨tg, 5, none⟩ = some (.int .i64 sf) := z5.out nq
      have yqn : (wr.drewN nq).cell? ⟨al, ao + q, none⟩ = some (.int .i64 vq) := cell_turned ((Turned.refl (fun _ => False) wr).drewN nq) yq.out (fun e => e)
      clear HL HC H5 xt y4 yq z5 z6
      generalize wr.drewN nq = w2 at *
      go_wp2_with fail
      go_quiet (first | exact Calls.quiet_of_same (HS2.out _) | exact Calls.quiet_of (HC2.out _))
      have TM := Lib.hid (TN.out.drewN nq)
      go_wp2_with fail
      go_ret
      exact ⟨rfl, TM.out⟩
end Go.Proofs.YtfheikmjjijdpaaDoor

