/-
  log.From of a log that was read anew and has one record. Conditions: that record is right.
-/
import Derived.Test.YtfheikmjjijdpaaDoorLgL
namespace Go.Proofs.YtfheikmjjijdpaaDoor
open Go.RowKit Go.Maps
set_option linter.unusedVariables false
set_option linter.unusedSimpArgs false

theorem recT : EltT Tryd.prog 46 39 11 168 (.agg #[.int .i64 0, .int .i64 0, .int .i64 0, .int .i64 0, .int .u8 0, .int .i64 0, .slice none 0 0, .slice none 0 0, .slice none 0 0, .slice none 0 0, .slice none 0 0]) := ⟨Tryd.underlying46, by kernel_rfl, rfl, by omega⟩
theorem new11 (w : World) (T : TypeId) (vs : Array Value) (b : Nat) (hb : b = w.heap.size) : ∀ j x, vs.toList[j]? = some x → (w.alloc (.cells vs T)).cell? ((⟨b, 0, none⟩ : Addr).add j) = some x := by
  intro j x hx
  subst hb
  rw [Addr.add_mid, Nat.zero_add, (Blk.new w T _).cell]
  simpa using hx
def LFr (w : World) (e : Ending) (w' : World) : Prop := ∃ A c, e = .returned (.slice A 1 c) ∧ Turned (fun _ => False) w w'
set_option maxRecDepth 100000 in
set_option maxHeartbeats 2000000 in
theorem lfr_any (B L d S g gb : Nat) (first count turn : Int) (cS al cl c : Nat) (t1 : Int) (R : Rec) (w : World) (h : LogW w B (LgS.one L d S g gb first count turn cS al cl c t1 [R])) (hr : rightR R = true) (hk : R.Ok) :
    Calls Tryd.prog 16 #[.pointer (some ⟨L, 0, none⟩), .int .i64 1] w (LFr w) := by
  have H := Lib.hid (fun (w' : World) (t : Turned (fun _ => False) w w') => h.fresh t)
  have HR := Lib.hid (fun (w' : World) (t : Turned (fun _ => False) w w') => lrd_any B L d S g gb first count turn cS al cl c t1 R w' (h.fresh t) hr hk)
  clear hr hk
  have x0 := Lib.hid h.read.d0
  clear h
  go_enter Tryd.func16, Tryd.ntmps16
  go_wp2_with fail
  refine (lthere_yes L d w x0.out).mono ?_
  rintro e w1 ⟨rfl, rfl⟩
  have x6 : w.cell? ⟨L, 6, none⟩ = some (.slice (some ⟨al, 0, none⟩) 1 cl) := (H.out _ (Turned.refl _ _)).blk.cell 6
  go_wp2_with fail
  have hq := lsearch_any al 1 cl [1] 1 w (by have h9 : OwnE w 2 1 (some ⟨al, 0, none⟩) 1 cl (i64s (lsnsL 0 0 [R])) := (H.out _ (Turned.refl _ _)).lsn; rw [one_lsn] at h9; exact h9) rfl (by omega) (by simp)
  rw [show ([1] : List Int).countP (· < 1) = 0 from by decide, show ([1] : List Int).contains 1 = true from by decide] at hq
  refine hq.mono ?_
  clear hq x6
  rintro e w1 ⟨rfl, q, rfl⟩
  have T1 := Lib.hid ((Turned.refl (fun _ => False) w).drewN q)
  generalize w.drewN q = w1 at *
  have x6 : w1.cell? ⟨L, 6, none⟩ = some (.slice (some ⟨al, 0, none⟩) 1 cl) := (H.out _ T1.out).blk.cell 6
  go_wp2_with fail
  go_loopw [7, 9, 10, 11, 33] (fun v _ _ _ i wr => (i = .int .i64 0 ∧ v = .slice none 0 0 ∧ wr = w1) ∨ (i = .int .i64 1 ∧ ∃ A c, v = .slice A 1 c ∧ Turned (fun _ => False) w wr)) (fun _ _ _ _ i _ => 1 - (intOf i).toNat)
  case atStart => exact .inl ⟨rfl, rfl, rfl⟩
  case round =>
    rcases hrel with ⟨rfl, rfl, rfl⟩ | ⟨rfl, A, c2, rfl, tt⟩
    · have xa : wr.cell? ⟨al, 0, none⟩ = some (.int .i64 1) := by have h9 : OwnE wr 2 1 (some ⟨al, 0, none⟩) 1 cl (i64s (lsnsL 0 0 [R])) := (H.out _ T1.out).lsn; rw [one_lsn] at h9; exact h9.row.cell rfl
      go_wp2_with fail
      refine (HR.out _ T1.out).mono ?_
      rintro e w2 ⟨S1, rfl, t2⟩
      have T2 := Lib.hid (T1.out.trans (W := fun _ => False) t2 (fun _ e => e) (fun _ e => e.elim))
      clear t2 xa x6
      unfold recC Rec.bare
      simp only
      have T3 := Lib.hid (T2.out.alloc (.cells (#[.int .i64 1, .int .i64 R.work, .int .i64 R.prev, .int .i64 R.next, .int .u8 R.kind, .int .i64 R.page, .slice S1.K.A S1.K.n S1.K.c, .slice S1.O.A S1.O.n S1.O.c, .slice S1.N.A S1.N.n S1.N.c, .slice S1.D.A S1.D.n S1.D.c, .slice S1.P.A S1.P.n S1.P.c]) 39))
      go_wp2_with (at_builtin; go_loud (refine wpList_appE recT rfl (.tmp 43) (.tmp 45) rfl (OwnE.nil _ _ _) ⟨w2.heap.size + 1, 0, none⟩ 1 1 (#[.int .i64 1, .int .i64 R.work, .int .i64 R.prev, .int .i64 R.next, .int .u8 R.kind, .int .i64 R.page, .slice S1.K.A S1.K.n S1.K.c, .slice S1.O.A S1.O.n S1.O.c, .slice S1.N.A S1.N.n S1.N.c, .slice S1.D.A S1.D.n S1.D.c, .slice S1.P.A S1.P.n S1.P.c]).toList rfl (new11 _ _ _ _ (by simp)) (by simp [Value.oneCell']) (by omega) (by unfold maxLen; omega) (by omega) rfl rfl ?_; intro A5 c5 w5 o5 a5; have hm5 := Lib.hid (App2.mine a5 (T3.out.alloc _) (fun g e => by cases e)); clear o5 a5))
      go_roundw
      case rel =>
        first
        | exact .inr ⟨rfl, A5, c5, rfl, hm5.out.1⟩
        | ((repeat apply Exists.intro); exact ⟨.inr ⟨rfl, A5, c5, rfl, hm5.out.1⟩, rfl⟩)
      case measure => simp [intOf]
    · have TT := Lib.hid tt
      clear tt
      go_wp2_with fail
      go_ret
      exact ⟨A, c2, rfl, TT.out⟩
end Go.Proofs.YtfheikmjjijdpaaDoor
