/-
  storemanlaw13: kinds, turned: the bytes of a right command, cut anywhere and with each of the first ones turned, are told alike. Conditions: ask.kinds holds what its initialiser lays.
-/
import Derived.Test.YtijmfglgeaaoaaaGreatDoorQAcG
import Derived.Deep.QuietTactic
namespace Go.Proofs.YtijmfglgeaaoaaaGreatDoor
open Go.RowKit Go.Maps
set_option linter.unusedVariables false
set_option linter.unusedSimpArgs false

theorem rchanges_any (k : Int) (w : World) (hk : isByte k) : Calls Tryz.prog 42 #[.int .u8 k] w (RetSame (.bool (decide (1 ≤ k) && decide (k ≤ 12))) w) := by
  unfold isByte at hk
  by_cases h1 : 1 ≤ k
  · by_cases h2 : k ≤ 12
    · go_enter Tryz.func42, Tryz.ntmps42
      go_wp2
      go_ret
      exact ⟨ret_bool (by simp [h1, h2]), rfl⟩
    · go_enter Tryz.func42, Tryz.ntmps42
      go_wp2
      go_ret
      exact ⟨ret_bool (by simp; omega), rfl⟩
  · go_enter Tryz.func42, Tryz.ntmps42
    go_wp2
    go_ret
    exact ⟨ret_bool (by simp; omega), rfl⟩
theorem zeros_news13 (w : World) : ∀ j u, (u8s [0, 0, 0])[j]? = some u → (w.alloc (.cells #[.int .u8 0, .int .u8 0, .int .u8 0] 5)).cell? ((⟨w.heap.size, 0, none⟩ : Addr).add j) = some u := by
  intro j u hu
  rw [Addr.add_mid, Nat.zero_add, (Blk.new w 5 _).cell]
  simpa [u8s] using hu
/-- A copy, and three zeros behind it. -/
theorem c9_cell13 {wr w5 w9 : World} {Ac A9 : Option Addr} {n cc c9 q : Nat} {ps : List Int} {o : Obj} (OC : OwnV w5 Ac n cc ps) (GC : ∀ g, Ac = some ⟨g, 0, none⟩ → wr.heap.size ≤ g) (Q5 : Turned (fun _ => False) wr w5) (o9 : OwnV w9 A9 (n + 3) c9 (ps ++ [0, 0, 0]))
    (a9 : (A9 = Ac ∧ c9 = cc ∧ Ac ≠ none ∧ Turned (fun g => Ac = some ⟨g, 0, none⟩) (w5.alloc o) w9) ∨ (A9 = some ⟨(w5.alloc o).heap.size, 0, none⟩ ∧ Turned (fun _ => False) (w5.alloc o) w9)) (hq : q < n + 3) :
    ∃ g, A9 = some ⟨g, 0, none⟩ ∧ RowB w9 5 g (n + 3) c9 (ps ++ [0, 0, 0]) ∧ wr.heap.size ≤ g ∧ Turned (fun _ => False) wr w9 := by
  obtain ⟨g, rfl, r⟩ := o9.some_ (by omega)
  have t6 := Q5.alloc o
  rcases a9 with ⟨e1, e2, _, t⟩ | ⟨e1, t⟩
  · have hg := GC g e1.symm
    exact ⟨g, rfl, r, hg, t6.trans (W := fun _ => False) t (fun _ e => e) (fun i e => .inr (GC i e))⟩
  · injection e1 with e1
    injection e1 with e1
    have := t6.size
    exact ⟨g, rfl, r, by omega, t6.and_ t⟩
theorem BytR.head13 {w : World} {A : Option Addr} {n k : Nat} {zs : List Int} (h : BytR w A n zs) (hk : k ≤ n) : BytR w A k (zs.take k) :=
  ⟨by rw [List.length_take, h.len]; omega, Nat.le_trans hk h.max, fun h0 => by
    obtain ⟨b, off, e, hc⟩ := h.cell (by omega)
    refine ⟨b, off, e, fun j hj => ?_⟩
    rw [hc j (by omega)]
    simp only [List.getD_eq_getElem?_getD, List.getElem?_take, if_pos hj]⟩
theorem set_byte13 {zs : List Int} {q : Nat} {z : Int} (h : ∀ y ∈ zs, isByte y) (hz : isByte z) : ∀ y ∈ zs.set q z, isByte y := by
  intro y hy
  rcases List.mem_or_eq_of_mem_set hy with h1 | rfl
  · exact h y h1
  · exact hz
theorem app_byte13 {a b : List Int} (h : ∀ y ∈ a, isByte y) (h2 : ∀ y ∈ b, isByte y) : ∀ y ∈ a ++ b, isByte y := fun y hy => (List.mem_append.1 hy).elim (h y) (h2 y)
set_option maxRecDepth 100000 in
set_option maxHeartbeats 2000000 in
theorem kinds_any (w : World) : Calls Tryz.prog 17 #[] w (OkNew w) := by
  go_enter Tryz.func17, Tryz.ntmps17
  go_wp2_with fail
  go_loopw [1] (fun i wr => ∃ k : Nat, k ≤ 256 ∧ i = .int .i64 k ∧ Turned (fun _ => False) w wr) (fun i _ => 256 - (intOf i).toNat)
  case atStart => exact ⟨0, by omega, rfl, Turned.refl _ _⟩
  case round =>
    obtain ⟨k, hk, rfl, tk⟩ := hrel
    have Tk := Lib.hid tk
    clear tk
    by_cases hlt : k < 256
    · have hki : (k : Int) < 256 := by omega
      have hb : isByte (k : Int) := ⟨by omega, by omega⟩
      rcases (show k < 1 ∨ 12 < k ∨ (1 ≤ k ∧ k ≤ 12) by omega) with hr | hr | ⟨hr1, hr2⟩
      · skip
        have e1 : ¬ (1 : Int) ≤ (k : Int) := by omega
        have e1' : (k : Int) < 1 := by omega
        have HC : ∀ w, Calls Tryz.prog 21 #[.int .u8 (k : Int)] w (RetSame (.bool false) w) := fun w => by
          have h := changes_any (k : Int) w hb
          rw [show (decide ((1 : Int) ≤ (k : Int)) && decide ((k : Int) ≤ 12)) = false by simp <;> omega] at h
          exact h
        have HD : ∀ w, Calls Tryz.prog 42 #[.int .u8 (k : Int)] w (RetSame (.bool false) w) := fun w => by
          have h := rchanges_any (k : Int) w hb
          rw [show (decide ((1 : Int) ≤ (k : Int)) && decide ((k : Int) ≤ 12)) = false by simp <;> omega] at h
          exact h
        go_wp2_with fail
        refine (HC _).mono ?_
        rintro e w1 ⟨rfl, rfl⟩
        go_wp2_with fail
        refine (HC _).mono ?_
        rintro e w1 ⟨rfl, rfl⟩
        go_wp2_with fail
        refine (HD _).mono ?_
        rintro e w1 ⟨rfl, rfl⟩
        go_wp2_with fail
        go_roundw
        case rel =>
          first
          | exact ⟨k + 1, by omega, by go_num, Tk.out⟩
          | ((repeat apply Exists.intro); exact ⟨⟨k + 1, by omega, by go_num, Tk.out⟩, rfl⟩)
        case measure => simp [intOf] <;> omega
      · skip
        have e1 : (1 : Int) ≤ (k : Int) := by omega
        have e2 : ¬ (k : Int) ≤ 12 := by omega
        have e2' : (12 : Int) < (k : Int) := by omega
        have HC : ∀ w, Calls Tryz.prog 21 #[.int .u8 (k : Int)] w (RetSame (.bool false) w) := fun w => by
          have h := changes_any (k : Int) w hb
          rw [show (decide ((1 : Int) ≤ (k : Int)) && decide ((k : Int) ≤ 12)) = false by simp <;> omega] at h
          exact h
        have HD : ∀ w, Calls Tryz.prog 42 #[.int .u8 (k : Int)] w (RetSame (.bool false) w) := fun w => by
          have h := rchanges_any (k : Int) w hb
          rw [show (decide ((1 : Int) ≤ (k : Int)) && decide ((k : Int) ≤ 12)) = false by simp <;> omega] at h
          exact h
        go_wp2_with fail
        refine (HC _).mono ?_
        rintro e w1 ⟨rfl, rfl⟩
        go_wp2_with fail
        refine (HC _).mono ?_
        rintro e w1 ⟨rfl, rfl⟩
        go_wp2_with fail
        refine (HD _).mono ?_
        rintro e w1 ⟨rfl, rfl⟩
        go_wp2_with fail
        go_roundw
        case rel =>
          first
          | exact ⟨k + 1, by omega, by go_num, Tk.out⟩
          | ((repeat apply Exists.intro); exact ⟨⟨k + 1, by omega, by go_num, Tk.out⟩, rfl⟩)
        case measure => simp [intOf] <;> omega
      · skip
        have e1 : (1 : Int) ≤ (k : Int) := by omega
        have e2 : (k : Int) ≤ 12 := by omega
        have HC : ∀ w, Calls Tryz.prog 21 #[.int .u8 (k : Int)] w (RetSame (.bool true) w) := fun w => by
          have h := changes_any (k : Int) w hb
          rw [show (decide ((1 : Int) ≤ (k : Int)) && decide ((k : Int) ≤ 12)) = true by simp <;> omega] at h
          exact h
        have HD : ∀ w, Calls Tryz.prog 42 #[.int .u8 (k : Int)] w (RetSame (.bool true) w) := fun w => by
          have h := rchanges_any (k : Int) w hb
          rw [show (decide ((1 : Int) ≤ (k : Int)) && decide ((k : Int) ≤ 12)) = true by simp <;> omega] at h
          exact h
        go_wp2_with fail
        refine (HC _).mono ?_
        rintro e w1 ⟨rfl, rfl⟩
        go_wp2_with fail
        refine (HC _).mono ?_
        rintro e w1 ⟨rfl, rfl⟩
        go_wp2_with fail
        refine (HD _).mono ?_
        rintro e w1 ⟨rfl, rfl⟩
        go_wp2_with fail
        go_roundw
        case rel =>
          first
          | exact ⟨k + 1, by omega, by go_num, Tk.out⟩
          | ((repeat apply Exists.intro); exact ⟨⟨k + 1, by omega, by go_num, Tk.out⟩, rfl⟩)
        case measure => simp [intOf] <;> omega
    · have hki : (256 : Int) ≤ (k : Int) := by omega
      go_wp2_with fail
      go_ret
      exact ⟨rfl, Tk.out⟩
set_option maxRecDepth 100000 in
set_option maxHeartbeats 4000000 in
theorem turned_any (a : AskV) (S : AskS) (w : World) (hKs : KindsOk w) (h : AskIs w a S) (hk : a.Ok) (hr : rightA a = true) (hP : a.parts.length ≤ 1000000) : Calls Tryz.prog 16 #[.agg (askC a S)] w (OkNew w) := by
  have hpl := Lib.hid (putA_len hr)
  have hpb := Lib.hid (putA_byte a)
  have HPut := Lib.hid (fun (w' : World) (t : Turned (fun _ => False) w w') => (by have q := ask_put_any a S w' (h.fresh t) hk (hKs.fresh t) hP; unfold APut at q; rw [hr] at q; simp only [if_true] at q; exact q : Calls Tryz.prog 18 #[.agg (askC a S)] w' (fun e w2 => ∃ A c, e = .returned (.tuple #[.slice A (putA a).length c, .int .i64 0]) ∧ OwnV w2 A (putA a).length c (putA a) ∧ (∀ g, A = some ⟨g, 0, none⟩ → w'.heap.size ≤ g) ∧ Turned (fun _ => False) w' w2)))
  have HRt := Lib.hid (fun (w' : World) (t : Turned (fun _ => False) w w') => (by have q := ask_right_any a S w' (h.fresh t) hk (hKs.fresh t) hP; rw [hr] at q; exact q : Calls Tryz.prog 20 #[.agg (askC a S)] w' (BoolNew true w')))
  have KS := Lib.hid hKs
  have B1 := Lib.hid (Blk.new w 29 (askC a S))
  have T0 := Lib.hid ((Turned.refl (fun _ => False) w).alloc (.cells (askC a S) 29))
  clear h hk hr hP hKs
  generalize putA a = ps at hpl hpb HPut
  obtain ⟨kind, request, item, qty, day, days, rank, lot, line, parts, others⟩ := a
  obtain ⟨⟨PA, Pn, Pc⟩, ⟨QA, On, Oc⟩⟩ := S
  unfold askC strV at *
  simp only at B1 T0 ⊢
  go_enter Tryz.func16, Tryz.ntmps16
  go_wp2_with fail
  generalize w.alloc (.cells #[.int .u8 kind, .int .i64 request, .string ⟨item.toArray⟩, .int .i64 qty, .int .i64 day, .int .i64 days, .int .i64 rank, .int .i64 lot, .int .i64 line, .slice PA Pn Pc, .slice QA On Oc] 29) = w0 at *
  obtain ⟨bx, hbx⟩ : ∃ bx, bx = w.heap.size := ⟨_, rfl⟩
  rw [← hbx] at B1 ⊢
  clear hbx
  obtain ⟨x0, x1, x2, x3, x4, x5, x6, x7, x8, x9, x10⟩ := B1.out.cells11
  go_wp2_with fail
  clear x0 x1 x2 x3 x4 x5 x6 x7 x8 x9 x10
  refine (HPut.out _ T0.out).mono ?_
  rintro e w1 ⟨Ab, cb, rfl, ob, gb, t1⟩
  have T1 := Lib.hid (T0.out.and_ t1)
  have B1 := Lib.hid (B1.out.turned t1 (fun e => e))
  have OB := Lib.hid ob
  clear t1 T0 ob gb
  obtain ⟨x0, x1, x2, x3, x4, x5, x6, x7, x8, x9, x10⟩ := B1.out.cells11
  go_wp2_with fail
  clear x0 x1 x2 x3 x4 x5 x6 x7 x8 x9 x10
  refine (HRt.out _ T1.out).mono ?_
  rintro e w4 ⟨rfl, t4⟩
  have T4 := Lib.hid (T1.out.and_ t4)
  have OB := Lib.hid (OB.out.turned t4 (fun _ _ e => e))
  have KS := Lib.hid (KS.out.fresh T4.out)
  clear t4 T1 B1 HPut HRt
  obtain ⟨hl2, hl3⟩ := hpl.out
  go_wp2_with fail
  go_loopw [5] (fun n wr => ∃ k : Nat, k ≤ ps.length + 1 ∧ n = .int .i64 k ∧ Turned (fun _ => False) w4 wr) (fun n _ => ps.length + 1 - (intOf n).toNat)
  case atStart => exact ⟨0, by omega, rfl, Turned.refl _ _⟩
  case round =>
    obtain ⟨k, hk, rfl, tk⟩ := hrel
    have Tk := Lib.hid tk
    clear tk
    by_cases hkl : k ≤ ps.length
    · have hkl2 : (k : Int) ≤ (ps.length : Int) := by omega
      have hob := (OB.out.turned Tk.out (fun _ _ e => e))
      have hmx := hob.max
      have hkc : (k : Int) ≤ (cb : Int) := by omega
      have hy := Lib.hid (show BytS wr Ab k cb (ps.take k) from ⟨hob.bytS'.toBytR.head13 (by omega), fun e => by have := hob.bytS'.nil_ e; omega⟩)
      have hm1 := Lib.hid hmx
      clear hob hmx
      go_wp2_with fail
      refine (askGets_any Ab k cb (ps.take k) wr (KS.out.fresh Tk.out) hy.out (fun z hz => hpb.out z (List.mem_of_mem_take hz)) (by omega) hm1.out.2 (by omega)).mono ?_
      rintro e w5 ⟨rfl, t5⟩
      have T5 := Lib.hid (Tk.out.and_ t5)
      clear t5 hy
      go_wp2_with fail
      go_roundw
      case rel =>
        first
        | exact ⟨k + 1, by omega, by go_num, T5.out⟩
        | ((repeat apply Exists.intro); exact ⟨⟨k + 1, by omega, by go_num, T5.out⟩, rfl⟩)
      case measure => simp [intOf] <;> omega
    · have hkl2 : (ps.length : Int) < (k : Int) := by omega
      obtain ⟨mn, hmn⟩ : ∃ mn : Nat, mn = min ps.length 70 := ⟨_, rfl⟩
      have hmn2 : min (ps.length : Int) 70 = (mn : Int) := by omega
      have hmn3 : mn ≤ ps.length := by omega
      have Hmn := Lib.hid hmn3
      clear hmn
      go_wp2_with fail
      go_loopw [6] (fun n wr => ∃ k : Nat, k ≤ mn ∧ n = .int .i64 k ∧ Turned (fun _ => False) w4 wr) (fun n _ => mn - (intOf n).toNat)
      case atStart => exact ⟨0, by omega, rfl, Tk.out⟩
      case round =>
        obtain ⟨q, hq, rfl, tq⟩ := hrel
        have Tq := Lib.hid tq
        clear tq
        by_cases hqm : q < mn
        · have hqm2 : (q : Int) < (mn : Int) := by omega
          go_wp2_with fail
          go_loopw [7] (fun n wr => ∃ k : Nat, 1 ≤ k ∧ k ≤ 511 ∧ n = .int .i64 k ∧ Turned (fun _ => False) w4 wr) (fun n _ => 512 - (intOf n).toNat)
          case atStart => exact ⟨1, by omega, by omega, rfl, Tq.out⟩
          case round =>
            obtain ⟨d, hd1, hd, rfl, td⟩ := hrel
            have Td := Lib.hid td
            clear td
            by_cases hdl : d < 256
            · have hdl2 : (d : Int) < 256 := by omega
              go_wp2_with fail
              refine (copyB_any Ab ps.length cb ps wr (OB.out.turned Td.out (fun _ _ e => e)).bytS' (by omega) (by omega)).mono ?_
              rintro e w5 ⟨Ac, cc, rfl, oc, gc, t5⟩
              have T5 := Lib.hid (Td.out.and_ t5)
              have OC := Lib.hid oc
              have GC := Lib.hid gc
              have Q5 := Lib.hid t5
              clear oc gc t5
              go_wp2_with (at_builtin; refine wpList_app2 bytT rfl (.tmp 45) (.tmp 46) rfl (OC.out.turned ((Turned.refl (fun _ => False) w5).alloc (.cells #[.int .u8 0, .int .u8 0, .int .u8 0] 5)) (fun _ _ e => e)) ⟨w5.heap.size, 0, none⟩ 3 3 [0, 0, 0] rfl (zeros_news13 w5) (by omega) (by omega) rfl rfl ?_; intro A9 c9 w9 o9 a9; have hc9 := c9_cell13 OC.out GC.out Q5.out o9 a9 (q := q) (by omega); obtain ⟨g9, e9, r9, hg9, t9⟩ := hc9; subst e9; have R9 := Lib.hid r9; have T9 := Lib.hid (Td.out.and_ t9); have xq := r9.cell (i := q) (by omega); have xg := r9.frozen q; clear r9 t9 a9 o9)
              refine (askGets_any (some ⟨g9, 0, none⟩) (ps.length + 3) c9 _ _ ?_ ((R9.out.set q _).bytS c9) ?_ R9.out.le R9.out.max (by omega)).mono ?_
              · exact KS.out.fresh (T9.out.setCell (p := ⟨g9, q, none⟩) (.inr (by have := Td.out.size; show w4.heap.size ≤ g9; omega)) _)
              · exact set_byte13 (app_byte13 hpb.out (by unfold isByte; decide)) ⟨by omega, by omega⟩
              · skip
                rintro e w10 ⟨rfl, t10⟩
                have s1 := Td.out.size
                have T10 := Lib.hid ((T9.out.setCell (p := ⟨g9, q, none⟩) (.inr (show w4.heap.size ≤ g9 by omega)) _).and_ t10)
                clear t10 s1 xq xg T9 R9 hg9
                go_wp2_with fail
                go_roundw
                case rel =>
                  first
                  | exact ⟨2 * d + 1, by omega, by omega, by go_num, T10.out⟩
                  | ((repeat apply Exists.intro); exact ⟨⟨2 * d + 1, by omega, by omega, by go_num, T10.out⟩, rfl⟩)
                case measure => simp [intOf] <;> omega
            · have hdl2 : (256 : Int) ≤ (d : Int) := by omega
              go_wp2_with fail
              go_roundw
              case rel =>
                first
                | exact ⟨q + 1, by omega, by go_num, Td.out⟩
                | ((repeat apply Exists.intro); exact ⟨⟨q + 1, by omega, by go_num, Td.out⟩, rfl⟩)
              case measure => simp [intOf] <;> omega
        · have hqm2 : (mn : Int) ≤ (q : Int) := by omega
          have TT := Lib.hid (T4.out.and_ Tq.out)
          go_wp2_with fail
          go_ret
          exact ⟨rfl, TT.out⟩
end Go.Proofs.YtijmfglgeaaoaaaGreatDoor

