/-
  ytfheikmjjijdpaadoor: laws and walks on the road to LogKeeps, joined: LgL LgM. Conditions stand at each theorem.
-/
import Derived.Test.YtfheikmjjijdpaaDoorQLgK
namespace Go.Proofs.YtfheikmjjijdpaaDoor
open Go.RowKit Go.Maps
set_option linter.unusedVariables false
set_option linter.unusedSimpArgs false

def comW (work : Int) : Rec := ⟨0, work, 0, 0, 3, 0, [], [], [], [], []⟩
set_option maxRecDepth 100000 in
theorem commit20_any (work : Int) (w : World) : Calls Tryd.prog 23 #[.int .i64 work] w (RetNew (.agg (recC (comW work) RecS.nil)) w) := by
  go_enter Tryd.func23, Tryd.ntmps23
  go_wp2
  refine bodyPost_ret (v := .agg (recC (comW work) RecS.nil)) (by simp [results, Tryd.results23, go_sem, recC, comW, RecS.nil, Sl.nil]) rfl ⟨rfl, ?_⟩
  exact (Turned.refl (fun _ => False) w).alloc _
def LRd (R : Rec) (w : World) (e : Ending) (w' : World) : Prop := ∃ S', e = .returned (.tuple #[.agg (recC { R.bare with lsn := 1 } S'), .int .i64 0]) ∧ Turned (fun _ => False) w w'
theorem one_lsn (R : Rec) : lsnsL 0 0 [R] = [1] := by simp [lsnsL]
set_option maxRecDepth 100000 in
set_option maxHeartbeats 2000000 in
theorem lrd_any (B L d S g gb : Nat) (first count turn : Int) (cS al cl c : Nat) (t1 : Int) (R : Rec) (w : World) (h : LogW w B (LgS.one L d S g gb first count turn cS al cl c t1 [R])) (hr : rightR R = true) (hk : R.Ok) :
    Calls Tryd.prog 26 #[.pointer (some ⟨L, 0, none⟩), .int .i64 1] w (LRd R w) := by
  have H := Lib.hid (fun (w' : World) (t : Turned (fun _ => False) w w') => h.fresh t)
  have hpl := h.hB
  have hpe : putsL [R] = putR R := by simp [putsL]
  have hgp := get_put hr hk []
  rw [List.append_nil] at hgp
  have HG := Lib.hid hgp
  have HB := Lib.hid (putR_bytes hr hk)
  have hln := rput_len hr hk
  unfold LgS.one at hpl
  simp only at hpl
  rw [hpe] at hpl
  obtain ⟨n, hn⟩ : ∃ n, n = (putR R).length := ⟨_, rfl⟩
  rw [← hn] at hpl hln HG
  have HN := Lib.hid hn
  have HPE := Lib.hid hpe
  clear h hr hk hgp hn hpe
  have B4 := Lib.hid (Blk.new w 39 (#[.int .i64 0, .int .i64 0, .int .i64 0, .int .i64 0, .int .u8 0, .int .i64 0, .slice none 0 0, .slice none 0 0, .slice none 0 0, .slice none 0 0, .slice none 0 0]))
  have T0 := Lib.hid ((Turned.refl (fun _ => False) w).alloc (.cells (#[.int .i64 0, .int .i64 0, .int .i64 0, .int .i64 0, .int .u8 0, .int .i64 0, .slice none 0 0, .slice none 0 0, .slice none 0 0, .slice none 0 0, .slice none 0 0]) 39))
  go_enter Tryd.func26, Tryd.ntmps26
  go_wp2_with fail
  generalize w.alloc (.cells #[.int .i64 0, .int .i64 0, .int .i64 0, .int .i64 0, .int .u8 0, .int .i64 0, .slice none 0 0, .slice none 0 0, .slice none 0 0, .slice none 0 0, .slice none 0 0] 39) = w0 at *
  obtain ⟨b4, hb4⟩ : ∃ b4, b4 = w.heap.size := ⟨_, rfl⟩
  rw [← hb4] at B4 ⊢
  have Hb4 := Lib.hid hb4
  clear hb4
  refine (lthere_yes L d w0 (H.out _ T0.out).read.d0).mono ?_
  rintro e w1 ⟨rfl, rfl⟩
  have x6 : w0.cell? ⟨L, 6, none⟩ = some (.slice (some ⟨al, 0, none⟩) 1 cl) := (H.out _ T0.out).blk.cell 6
  go_wp2_with fail
  have hq := lsearch_any al 1 cl [1] 1 w0 (by have h9 : OwnE w0 2 1 (some ⟨al, 0, none⟩) 1 cl (i64s (lsnsL 0 0 [R])) := (H.out _ T0.out).lsn; rw [one_lsn] at h9; exact h9) rfl (by omega) (by simp)
  rw [show ([1] : List Int).countP (· < 1) = 0 from by decide, show ([1] : List Int).contains 1 = true from by decide] at hq
  refine hq.mono ?_
  clear hq x6
  rintro e w1 ⟨rfl, q, rfl⟩
  have td := (Turned.refl (fun _ => False) w0).drewN q
  have T1 := Lib.hid (T0.out.and_ td)
  have B4 := Lib.hid (B4.out.turned td (fun e => e))
  clear td
  generalize w0.drewN q = w1 at *
  have x5 : w1.cell? ⟨L, 5, none⟩ = some (.slice (some ⟨S, 0, none⟩) 1 cS) := (H.out _ T1.out).blk.cell 5
  have xs : w1.cell? ⟨S, 0, none⟩ = some (.pointer (some ⟨g, 0, none⟩)) := (H.out _ T1.out).read.lst
  have x0 : w1.cell? ⟨g, 0, none⟩ = some (.int .i64 0) := (H.out _ T1.out).sht.blk.cell 0
  go_wp2_with fail
  go_quiet (fail)
  have td := (Turned.refl (fun _ => False) w1).drewN nq
  have T2 := Lib.hid (T1.out.and_ td)
  have B4 := Lib.hid (B4.out.turned td (fun e => e))
  clear td x5 xs x0
  generalize w1.drewN nq = w2 at *
  have x4 : w2.cell? ⟨g, 4, none⟩ = some (.slice (some ⟨gb, 0, none⟩) n c) := by have h9 : w2.cell? ⟨g, 4, none⟩ = some (.slice (some ⟨gb, 0, none⟩) (putsL [R]).length c) := (H.out _ T2.out).sht.blk.cell 4; rw [HPE.out, ← HN.out] at h9; exact h9
  have hbo : RowB w2 5 gb n c (putR R) := by have h9 : RowB w2 5 gb (putsL [R]).length c (putsL [R]) := (H.out _ T2.out).sht.bod; rw [HPE.out, ← HN.out] at h9; exact h9
  have HO := Lib.hid hbo
  have hcn := hbo.le
  have hn0 : (0 : Int) < (n : Int) := by omega
  clear hbo
  go_wp2_with fail
  refine (rget_any (some ⟨gb, 0, none⟩) n c (putR R) w2 (HO.out.bytS c) HB.out HO.out.le HO.out.max).mono ?_
  rintro e w5 hpost
  rcases hpost with ⟨R1, n1, S1, hg1, rfl, _, t5⟩ | ⟨hg1, _, _⟩
  · rw [HG.out] at hg1
    injection hg1 with hg1
    injection hg1 with e1 e2
    subst e1 e2
    have T5 := Lib.hid (T2.out.and_ t5)
    have B5 := Lib.hid (B4.out.turned t5 (fun e => e))
    clear t5 x4 B4
    unfold recC Rec.bare
    simp only
    have ta := (Turned.refl (fun _ => False) w5).alloc (.cells (#[.int .i64 1, .int .i64 R.work, .int .i64 R.prev, .int .i64 R.next, .int .u8 R.kind, .int .i64 R.page, .slice S1.K.A S1.K.n S1.K.c, .slice S1.O.A S1.O.n S1.O.c, .slice S1.N.A S1.N.n S1.N.c, .slice S1.D.A S1.D.n S1.D.c, .slice S1.P.A S1.P.n S1.P.c]) 39)
    have B6 := Lib.hid (B5.out.turned ta (fun e => e))
    have T6 := Lib.hid (T5.out.and_ ta)
    clear ta
    obtain ⟨y0, y1, y2, y3, y4, y5, y6, y7, y8, y9, y10⟩ := B6.out.cells11
    have yf := B6.out.frozen
    go_wp2_with fail
    obtain ⟨wz, hwz, XZ, tZ⟩ := fin11 (.int .i64 1) (.int .i64 R.work) (.int .i64 R.prev) (.int .i64 R.next) (.int .u8 R.kind) (.int .i64 R.page) (.slice S1.K.A S1.K.n S1.K.c) (.slice S1.O.A S1.O.n S1.O.c) (.slice S1.N.A S1.N.n S1.N.c) (.slice S1.D.A S1.D.n S1.D.c) (.slice S1.P.A S1.P.n S1.P.c) B6.out
    rw [hwz]
    clear hwz
    have TZ := T6.out.trans (W := fun _ => False) tZ (fun _ e => e) (fun i e => .inr (by have h1 := Hb4.out; have h2 : i = b4 := e; omega))
    obtain ⟨e0, e1, e2, e3, e4, e5, e6, e7, e8, e9, e10⟩ := XZ.cells11
    refine bodyPost_ret (v := .tuple #[.agg #[.int .i64 1, .int .i64 R.work, .int .i64 R.prev, .int .i64 R.next, .int .u8 R.kind, .int .i64 R.page, .slice S1.K.A S1.K.n S1.K.c, .slice S1.O.A S1.O.n S1.O.c, .slice S1.N.A S1.N.n S1.N.c, .slice S1.D.A S1.D.n S1.D.c, .slice S1.P.A S1.P.n S1.P.c], .int .i64 0]) (by simp [results, Tryd.results26, go_sem, e0, e1, e2, e3, e4, e5, e6, e7, e8, e9, e10]) rfl ?_
    exact ⟨S1, rfl, TZ⟩
  · rw [HG.out] at hg1; cases hg1
end Go.Proofs.YtfheikmjjijdpaaDoor

namespace Go.Proofs.YtfheikmjjijdpaaDoor
open Go.RowKit Go.Maps
set_option linter.unusedVariables false
set_option linter.unusedSimpArgs false

theorem recT : EltT Tryd.prog 46 39 11 168 (.agg #[.int .i64 0, .int .i64 0, .int .i64 0, .int .i64 0, .int .u8 0, .int .i64 0, .slice none 0 0, .slice none 0 0, .slice none 0 0, .slice none 0 0, .slice none 0 0]) := ⟨Tryd.underlying46, by kernel_rfl, rfl, by omega⟩
theorem new11 (w : World) (T : TypeId) (vs : Array Value) (b : Nat) (hb : b = w.heap.size) : ∀ j x, vs.toList[j]? = some x → (w.alloc (.cells vs T)).cell? ((⟨b, 0, none⟩ : Addr).add j) = some x := by
  intro j x hx
  subst hb
  rw [Addr.add_mid, Nat.zero_add, (Blk.new w T _).cell]
  simpa using hx
def LFr (w : World) (e : Ending) (w' : World) : Prop := ∃ A c, e = .returned (.slice A 1 c) ∧ Turned (fun _ => False) w w'
set_option maxRecDepth 100000 in
set_option maxHeartbeats 2000000 in
theorem lfr_any (B L d S g gb : Nat) (first count turn : Int) (cS al cl c : Nat) (t1 : Int) (R : Rec) (w : World) (h : LogW w B (LgS.one L d S g gb first count turn cS al cl c t1 [R])) (hr : rightR R = true) (hk : R.Ok) :
    Calls Tryd.prog 16 #[.pointer (some ⟨L, 0, none⟩), .int .i64 1] w (LFr w) := by
  have H := Lib.hid (fun (w' : World) (t : Turned (fun _ => False) w w') => h.fresh t)
  have HR := Lib.hid (fun (w' : World) (t : Turned (fun _ => False) w w') => lrd_any B L d S g gb first count turn cS al cl c t1 R w' (h.fresh t) hr hk)
  clear hr hk
  have x0 := Lib.hid h.read.d0
  clear h
  go_enter Tryd.func16, Tryd.ntmps16
  go_wp2_with fail
  refine (lthere_yes L d w x0.out).mono ?_
  rintro e w1 ⟨rfl, rfl⟩
  have x6 : w.cell? ⟨L, 6, none⟩ = some (.slice (some ⟨al, 0, none⟩) 1 cl) := (H.out _ (Turned.refl _ _)).blk.cell 6
  go_wp2_with fail
  have hq := lsearch_any al 1 cl [1] 1 w (by have h9 : OwnE w 2 1 (some ⟨al, 0, none⟩) 1 cl (i64s (lsnsL 0 0 [R])) := (H.out _ (Turned.refl _ _)).lsn; rw [one_lsn] at h9; exact h9) rfl (by omega) (by simp)
  rw [show ([1] : List Int).countP (· < 1) = 0 from by decide, show ([1] : List Int).contains 1 = true from by decide] at hq
  refine hq.mono ?_
  clear hq x6
  rintro e w1 ⟨rfl, q, rfl⟩
  have T1 := Lib.hid ((Turned.refl (fun _ => False) w).drewN q)
  generalize w.drewN q = w1 at *
  have x6 : w1.cell? ⟨L, 6, none⟩ = some (.slice (some ⟨al, 0, none⟩) 1 cl) := (H.out _ T1.out).blk.cell 6
  go_wp2_with fail
  go_loopw [7, 9, 10, 11, 33] (fun v _ _ _ i wr => (i = .int .i64 0 ∧ v = .slice none 0 0 ∧ wr = w1) ∨ (i = .int .i64 1 ∧ ∃ A c, v = .slice A 1 c ∧ Turned (fun _ => False) w wr)) (fun _ _ _ _ i _ => 1 - (intOf i).toNat)
  case atStart => exact .inl ⟨rfl, rfl, rfl⟩
  case round =>
    rcases hrel with ⟨rfl, rfl, rfl⟩ | ⟨rfl, A, c2, rfl, tt⟩
    · have xa : wr.cell? ⟨al, 0, none⟩ = some (.int .i64 1) := by have h9 : OwnE wr 2 1 (some ⟨al, 0, none⟩) 1 cl (i64s (lsnsL 0 0 [R])) := (H.out _ T1.out).lsn; rw [one_lsn] at h9; exact h9.row.cell rfl
      go_wp2_with fail
      refine (HR.out _ T1.out).mono ?_
      rintro e w2 ⟨S1, rfl, t2⟩
      have T2 := Lib.hid (T1.out.and_ t2)
      clear t2 xa x6
      unfold recC Rec.bare
      simp only
      have T3 := Lib.hid (T2.out.alloc (.cells (#[.int .i64 1, .int .i64 R.work, .int .i64 R.prev, .int .i64 R.next, .int .u8 R.kind, .int .i64 R.page, .slice S1.K.A S1.K.n S1.K.c, .slice S1.O.A S1.O.n S1.O.c, .slice S1.N.A S1.N.n S1.N.c, .slice S1.D.A S1.D.n S1.D.c, .slice S1.P.A S1.P.n S1.P.c]) 39))
      go_wp2_with (at_builtin; go_loud (refine wpList_appE recT rfl (.tmp 43) (.tmp 45) rfl (OwnE.nil _ _ _) ⟨w2.heap.size + 1, 0, none⟩ 1 1 (#[.int .i64 1, .int .i64 R.work, .int .i64 R.prev, .int .i64 R.next, .int .u8 R.kind, .int .i64 R.page, .slice S1.K.A S1.K.n S1.K.c, .slice S1.O.A S1.O.n S1.O.c, .slice S1.N.A S1.N.n S1.N.c, .slice S1.D.A S1.D.n S1.D.c, .slice S1.P.A S1.P.n S1.P.c]).toList rfl (new11 _ _ _ _ (by simp)) (by simp [Value.oneCell']) (by omega) (by unfold maxLen; omega) (by omega) rfl rfl ?_; intro A5 c5 w5 o5 a5; have hm5 := Lib.hid (App2.mine a5 (T3.out.alloc _) (fun g e => by cases e)); clear o5 a5))
      go_roundw
      case rel =>
        first
        | exact .inr ⟨rfl, A5, c5, rfl, hm5.out.1⟩
        | ((repeat apply Exists.intro); exact ⟨.inr ⟨rfl, A5, c5, rfl, hm5.out.1⟩, rfl⟩)
      case measure => simp [intOf]
    · have TT := Lib.hid tt
      clear tt
      go_wp2_with fail
      go_ret
      exact ⟨A, c2, rfl, TT.out⟩
end Go.Proofs.YtfheikmjjijdpaaDoor

