/-
  slices.BinarySearch, log.Read and log.From in a log of many sheets. Conditions: the Lsns rise; a Lsn's record stands at its place.
-/
import Derived.Test.YtfheikmjjijdpaaDoorQLhM
import Derived.Test.YtfheikmjjijdpaaDoorQLgM
namespace Go.Proofs.YtfheikmjjijdpaaDoor
open Go.RowKit Go.Maps Go.Proofs
set_option linter.unusedVariables false
set_option linter.unusedSimpArgs false

theorem hsearch_some (a o n c : Nat) (zs : List Int) (x : Int) (w : World) (h : OwnO w 2 1 (some ⟨a, o, none⟩) n c (i64s zs)) (hn : zs.length = n) (hn2 : n ≤ 10000000) (hs : zs.Pairwise (· ≤ ·)) :
    Calls Tryd.prog 49 #[.slice (some ⟨a, o, none⟩) n c, .int .i64 x] w (fun e w' => e = .returned (.tuple #[.int .i64 ((zs.countP (· < x) : Nat) : Int), .bool (zs.contains x)]) ∧ ∃ q, w' = w.drewN q) := by
  have hr : RowO w 2 1 a o n c (i64s zs) := by
    rcases h with ⟨e, _⟩ | ⟨g', o', e, h⟩
    · cases e
    · injection e with e
      injection e with e1 e2
      subst e1 e2
      exact h
  have q := AnyG.slices_BinarySearch_int Tryd.laysSlN49_f49 a o n c zs x w (by omega) (by omega) (fun j hj => by
    rw [hr.cell? (by omega)]
    exact i64s_get zs j hj) (by rw [List.take_of_length_le (by omega)]; exact hs)
  rw [List.take_of_length_le (by omega)] at q
  exact q
set_option maxRecDepth 100000 in
theorem hsearch_nil (x : Int) (w : World) :
    Calls Tryd.prog 49 #[.slice none 0 0, .int .i64 x] w (fun e w' => e = .returned (.tuple #[.int .i64 0, .bool false]) ∧ ∃ q, w' = w.drewN q) := by
  go_enter Tryd.func49, Tryd.ntmps49
  go_wp2_with fail
  go_loopw [7, 8, 9] (fun v7 v8 _ wr => v7 = .int .i64 0 ∧ v8 = .int .i64 0 ∧ wr = w) (fun _ _ _ _ => 0)
  case atStart => exact ⟨rfl, rfl, rfl⟩
  case round =>
    obtain ⟨rfl, rfl, rfl⟩ := hrel
    go_wp2_with fail
    go_ret2
    exact ⟨rfl, 0, rfl⟩
theorem hsearch_any (A : Option Addr) (n c : Nat) (zs : List Int) (x : Int) (w : World) (h : OwnO w 2 1 A n c (i64s zs)) (hn : zs.length = n) (hn2 : n ≤ 10000000) (hs : zs.Pairwise (· ≤ ·)) :
    Calls Tryd.prog 49 #[.slice A n c, .int .i64 x] w (fun e w' => e = .returned (.tuple #[.int .i64 ((zs.countP (· < x) : Nat) : Int), .bool (zs.contains x)]) ∧ ∃ q, w' = w.drewN q) := by
  rcases h with ⟨rfl, rfl, rfl, e⟩ | ⟨g, o, rfl, h⟩
  · have hz : zs = [] := List.eq_nil_of_length_eq_zero hn
    subst hz
    exact hsearch_nil x w
  · exact hsearch_some g o n c zs x w (.inr ⟨g, o, rfl, h⟩) hn hn2 hs
def HRd (R : Rec) (x : Int) (w : World) (e : Ending) (w' : World) : Prop := ∃ S', e = .returned (.tuple #[.agg (recC { R.bare with lsn := x } S'), .int .i64 0]) ∧ RecOwn w' w.heap.size { R.bare with lsn := x } S' ∧ Turned (fun _ => False) w w'
/-- Where a record of a log stands. -/
structure RecAtX (X : LgM) (x : Int) (R : Rec) (i p : Nat) (s0 s : ShM) (rest : List Int) : Prop where
  e0 : X.shs[0]? = some s0
  ei : X.shs[i]? = some s
  nm : s.num = s0.num + (i : Int)
  lsn : x = s.num * 512 + (p : Int) + 1
  bod : s.body.drop p = putR R ++ rest
  byt : ∀ z ∈ s.body, isByte z
  right : rightR R = true
  ok : R.Ok
  mem : X.ls.contains x = true
set_option maxRecDepth 100000 in
set_option maxHeartbeats 2000000 in
theorem hrd_any (X : LgM) (x : Int) (R : Rec) (i p : Nat) (s0 s : ShM) (rest : List Int) (w : World) (h : LogM w X) (hx : RecAtX X x R i p s0 s rest) (hs : X.ls.Pairwise (· ≤ ·)) :
    Calls Tryd.prog 26 #[.pointer (some ⟨X.L, 0, none⟩), .int .i64 x] w (HRd R x w) := by
  obtain ⟨L, d, first, count, turn, oldest, Sb, So, cS, Al, cl, ls, shs⟩ := X
  obtain ⟨e0, ei, en, el, eb, ebt, er, ek, em⟩ := hx
  simp only at *
  have H := Lib.hid (fun (w' : World) (t : Turned (fun _ => False) w w') => h.fresh t)
  have m0 : s0 ∈ shs := List.mem_of_getElem? e0
  have mi : s ∈ shs := List.mem_of_getElem? ei
  have hsB : s.body.length ≤ 496 := h.hB s mi
  have hn0 := h.nB s0 m0
  have hni := h.nB s mi
  have hi2 : i < shs.length := (List.getElem?_eq_some_iff.1 ei).1
  have hkB : shs.length ≤ 10000 := h.kB
  have hlB : ls.length ≤ 10000000 := h.lB
  have HS := Lib.hid hs
  have hgp := get_put er ek rest
  rw [← eb] at hgp
  have HG := Lib.hid hgp
  have hln := rput_len er ek
  obtain ⟨n, hn⟩ : ∃ n, n = s.body.length := ⟨_, rfl⟩
  have hpn : p + 3 ≤ n := by have := congrArg List.length eb; rw [List.length_drop, List.length_append] at this; omega
  have HB := Lib.hid (show ∀ z ∈ s.body.drop p, isByte z from fun z hz => ebt z (List.mem_of_mem_drop hz))
  have X5 := Lib.hid (fun (w' : World) (t : Turned (fun _ => False) w w') => (show w'.cell? ⟨L, 5, none⟩ = some (.slice (some ⟨Sb, So, none⟩) shs.length cS) ∧ w'.cell? ⟨Sb, So, none⟩ = some (.pointer (some ⟨s0.g, 0, none⟩)) ∧ w'.cell? ⟨Sb, So + i, none⟩ = some (.pointer (some ⟨s.g, 0, none⟩)) ∧ w'.cell? ⟨s0.g, 0, none⟩ = some (.int .i64 s0.num) from ⟨(h.fresh t).blk.cell 5, by have h9 := (h.fresh t).row.cell (i := 0) (v := s0.ptr) (by rw [List.getElem?_map, e0]; rfl); exact h9, (h.fresh t).row.cell (i := i) (v := s.ptr) (by rw [List.getElem?_map, ei]; rfl), ((h.fresh t).sht s0 m0).blk.cell 0⟩))
  have X4 := Lib.hid (fun (w' : World) (t : Turned (fun _ => False) w w') => (show w'.cell? ⟨s.g, 4, none⟩ = some (.slice (some ⟨s.gb, 0, none⟩) n s.c) ∧ RowB w' 5 s.gb n s.c s.body from ⟨by rw [hn]; exact ((h.fresh t).sht s mi).blk.cell 4, by rw [hn]; exact ((h.fresh t).sht s mi).bod⟩))
  have D0 := Lib.hid (fun (w' : World) (t : Turned (fun _ => False) w w') => (show w'.cell? ⟨L, 0, none⟩ = some (.pointer (some ⟨d, 0, none⟩)) ∧ w'.cell? ⟨L, 6, none⟩ = some (.slice Al ls.length cl) ∧ OwnO w' 2 1 Al ls.length cl (i64s ls) from ⟨(h.fresh t).blk.cell 0, (h.fresh t).blk.cell 6, (h.fresh t).lsn⟩))
  obtain ⟨num, hnum⟩ : ∃ z, z = s.num := ⟨_, rfl⟩
  obtain ⟨num0, hnum0⟩ : ∃ z, z = s0.num := ⟨_, rfl⟩
  obtain ⟨g, hg⟩ : ∃ z, z = s.g := ⟨_, rfl⟩
  obtain ⟨g0, hg0⟩ : ∃ z, z = s0.g := ⟨_, rfl⟩
  obtain ⟨gb, hgb⟩ : ∃ z, z = s.gb := ⟨_, rfl⟩
  obtain ⟨c, hc⟩ : ∃ z, z = s.c := ⟨_, rfl⟩
  obtain ⟨body, hbody⟩ : ∃ z, z = s.body := ⟨_, rfl⟩
  rw [← hg, ← hg0, ← hnum0] at X5
  rw [← hg, ← hgb, ← hc, ← hbody] at X4
  rw [← hbody] at HG HB
  rw [← hnum] at hni en el
  rw [← hnum0] at hn0 en
  rw [← hn] at hsB
  have HBL := Lib.hid (show body.length = n by rw [hbody, hn])
  clear h e0 ei eb ebt er ek m0 mi hgp hn hnum hnum0 hg hg0 hgb hc hbody hs
  have hx1 : IntKind.i64.wrap (x - 1) = num * 512 + (p : Int) := by rw [el, show num * 512 + (p : Int) + 1 - 1 = num * 512 + (p : Int) by omega]; exact IntWalk.i64_in _ (by omega)
  have hq1 : (num * 512 + (p : Int)).tdiv 512 = num := by rw [Int.tdiv_eq_ediv_of_nonneg (by omega)]; omega
  have hq2 : (num * 512 + (p : Int)) / 512 = num := by omega
  have hr1 : (num * 512 + (p : Int)).tmod 512 = (p : Int) := by rw [Int.tmod_eq_emod_of_nonneg (by omega)]; omega
  have hr2 : (num * 512 + (p : Int)) % 512 = (p : Int) := by omega
  have hsub : IntKind.i64.wrap (num - num0) = (i : Int) := by rw [en, show num0 + (i : Int) - num0 = (i : Int) by omega]; exact IntWalk.i64_in _ (by omega)
  have hsub2 : num - num0 = (i : Int) := by omega
  have hil : (i : Int) < (shs.length : Int) := by omega
  have hil0 : (0 : Int) < (shs.length : Int) := by omega
  have hx2 : x - 1 = num * 512 + (p : Int) := by omega
  clear en el
  have B4 := Lib.hid (Blk.new w 39 (#[.int .i64 0, .int .i64 0, .int .i64 0, .int .i64 0, .int .u8 0, .int .i64 0, .slice none 0 0, .slice none 0 0, .slice none 0 0, .slice none 0 0, .slice none 0 0]))
  have T0 := Lib.hid ((Turned.refl (fun _ => False) w).alloc (.cells (#[.int .i64 0, .int .i64 0, .int .i64 0, .int .i64 0, .int .u8 0, .int .i64 0, .slice none 0 0, .slice none 0 0, .slice none 0 0, .slice none 0 0, .slice none 0 0]) 39))
  go_enter Tryd.func26, Tryd.ntmps26
  go_wp2_with fail
  generalize w.alloc (.cells #[.int .i64 0, .int .i64 0, .int .i64 0, .int .i64 0, .int .u8 0, .int .i64 0, .slice none 0 0, .slice none 0 0, .slice none 0 0, .slice none 0 0, .slice none 0 0] 39) = w0 at *
  obtain ⟨b4, hb4⟩ : ∃ b4, b4 = w.heap.size := ⟨_, rfl⟩
  rw [← hb4] at B4 ⊢
  have Hb4 := Lib.hid hb4
  clear hb4
  refine (lthere_yes L d w0 (D0.out _ T0.out).1).mono ?_
  rintro e w1 ⟨rfl, rfl⟩
  have x6 : w0.cell? ⟨L, 6, none⟩ = some (.slice Al ls.length cl) := (D0.out _ T0.out).2.1
  go_wp2_with fail
  have hq := hsearch_any Al ls.length cl ls x w0 (D0.out _ T0.out).2.2 rfl hlB HS.out
  rw [em] at hq
  refine hq.mono ?_
  clear hq x6 em
  rintro e w1 ⟨rfl, q, rfl⟩
  have td := (Turned.refl (fun _ => False) w0).drewN q
  have T1 := Lib.hid (T0.out.and_ td)
  have B4 := Lib.hid (B4.out.turned td (fun e => e))
  clear td
  generalize w0.drewN q = w1 at *
  obtain ⟨x5, xs0, xsi, x0⟩ := X5.out _ T1.out
  generalize ls.countP (· < x) = kq
  generalize shs.length = nsh at *
  go_wp2_with fail
  go_quiet (fail)
  have td := (Turned.refl (fun _ => False) w1).drewN nq
  have T2 := Lib.hid (T1.out.and_ td)
  have B4 := Lib.hid (B4.out.turned td (fun e => e))
  clear td x5 xs0 xsi x0
  generalize w1.drewN nq = w2 at *
  obtain ⟨x4, hr⟩ := X4.out _ T2.out
  have hcn := hr.le
  have hcm := hr.max
  have hcp : ¬ c = p := by omega
  have hpc : p ≤ n := by omega
  have hpc2 : (p : Int) ≤ (n : Int) := by omega
  have hpi : (p : Int) < (n : Int) := by omega
  have hp5 : (p : Int) ≤ 496 := by omega
  have hzs : BytS w2 (some ⟨gb, p, none⟩) (n - p) (c - p) (body.drop p) := ⟨by have := BytR.take_ (p := p) (m := n - p) hr.bytR (by omega); rw [Nat.zero_add, List.take_of_length_le (by rw [List.length_drop, HBL.out]; exact Nat.le_refl _)] at this; exact this, fun e => by cases e⟩
  have HZ := Lib.hid hzs
  have HQ := Lib.hid (And.intro (show n - p ≤ c - p by omega) (show c - p ≤ maxLen by omega))
  clear hr hzs hcm
  go_wp2_with fail
  refine (rget_any (some ⟨gb, p, none⟩) (n - p) (c - p) (body.drop p) w2 HZ.out HB.out HQ.out.1 HQ.out.2).mono ?_
  rintro e w5 hpost
  rcases hpost with ⟨R1, n1, S1, hg1, rfl, ow, t5⟩ | ⟨hg1, _, _⟩
  · rw [HG.out] at hg1
    injection hg1 with hg1
    injection hg1 with e1 e2
    subst e1 e2
    have T5 := Lib.hid (T2.out.and_ t5)
    have B5 := Lib.hid (B4.out.turned t5 (fun e => e))
    have OW := Lib.hid ow
    have s52 := Lib.hid T2.out.size
    clear t5 x4 B4 ow
    unfold recC Rec.bare
    simp only
    have ta := (Turned.refl (fun _ => False) w5).alloc (.cells (#[.int .i64 x, .int .i64 R.work, .int .i64 R.prev, .int .i64 R.next, .int .u8 R.kind, .int .i64 R.page, .slice S1.K.A S1.K.n S1.K.c, .slice S1.O.A S1.O.n S1.O.c, .slice S1.N.A S1.N.n S1.N.c, .slice S1.D.A S1.D.n S1.D.c, .slice S1.P.A S1.P.n S1.P.c]) 39)
    have B6 := Lib.hid (B5.out.turned ta (fun e => e))
    have T6 := Lib.hid (T5.out.and_ ta)
    have OW := Lib.hid (OW.out.fresh ta)
    clear ta
    obtain ⟨y0, y1, y2, y3, y4, y5, y6, y7, y8, y9, y10⟩ := B6.out.cells11
    have yf := B6.out.frozen
    go_wp2_with fail
    obtain ⟨wz, hwz, XZ, tZ⟩ := fin11 (.int .i64 x) (.int .i64 R.work) (.int .i64 R.prev) (.int .i64 R.next) (.int .u8 R.kind) (.int .i64 R.page) (.slice S1.K.A S1.K.n S1.K.c) (.slice S1.O.A S1.O.n S1.O.c) (.slice S1.N.A S1.N.n S1.N.c) (.slice S1.D.A S1.D.n S1.D.c) (.slice S1.P.A S1.P.n S1.P.c) B6.out
    rw [hwz]
    clear hwz
    have TZ := T6.out.trans (W := fun _ => False) tZ (fun _ e => e) (fun i e => .inr (by have h1 := Hb4.out; have h2 : i = b4 := e; omega))
    have OZ := OW.out.moved tZ (fun i e => e) B6.out (by decide) (by decide) (by decide)
    obtain ⟨e0, e1, e2, e3, e4, e5, e6, e7, e8, e9, e10⟩ := XZ.cells11
    refine bodyPost_ret (v := .tuple #[.agg #[.int .i64 x, .int .i64 R.work, .int .i64 R.prev, .int .i64 R.next, .int .u8 R.kind, .int .i64 R.page, .slice S1.K.A S1.K.n S1.K.c, .slice S1.O.A S1.O.n S1.O.c, .slice S1.N.A S1.N.n S1.N.c, .slice S1.D.A S1.D.n S1.D.c, .slice S1.P.A S1.P.n S1.P.c], .int .i64 0]) (by simp [results, Tryd.results26, go_sem, e0, e1, e2, e3, e4, e5, e6, e7, e8, e9, e10]) rfl ?_
    have hw2 : w.heap.size ≤ w2.heap.size := s52.out
    exact ⟨S1, rfl, ⟨OZ.key, OZ.old, OZ.new, OZ.dirty, OZ.opn, fun g e => Nat.le_trans hw2 (OZ.kB g e), fun g e => Nat.le_trans hw2 (OZ.oB g e), fun g e => Nat.le_trans hw2 (OZ.nB g e), fun g e => Nat.le_trans hw2 (OZ.dB g e), fun g e => Nat.le_trans hw2 (OZ.pB g e), OZ.ko, OZ.kn, OZ.on, OZ.few⟩, TZ⟩
  · rw [HG.out] at hg1; cases hg1
/-- The cells of rows of records. -/
def rcells (rows : List (Rec × RecS)) : List Value := rows.flatMap fun r => (recC r.1 r.2).toList
theorem rcells_snoc (rows : List (Rec × RecS)) (r : Rec × RecS) : rcells (rows ++ [r]) = rcells rows ++ (recC r.1 r.2).toList := by simp [rcells]
/-- Records with their Lsns. -/
def recsX (ls : List Int) (Rs : List Rec) : List Rec := List.zipWith (fun x R => { R.bare with lsn := x }) ls Rs
structure RowsAt (w0 : World) (A : Option Addr) (n c : Nat) (rows : List (Rec × RecS)) (w : World) : Prop where
  len : rows.length = n
  own : OwnE w 39 11 A n c (rcells rows)
  new : ∀ g, A = some ⟨g, 0, none⟩ → w0.heap.size ≤ g
  recs : ∀ r ∈ rows, RecOwn w w0.heap.size r.1 r.2
  turned : Turned (fun _ => False) w0 w
theorem RowsAt.fresh {w0 w w' : World} {A : Option Addr} {n c : Nat} {rows : List (Rec × RecS)} (h : RowsAt w0 A n c rows w) (ht : Turned (fun _ => False) w w') : RowsAt w0 A n c rows w' :=
  ⟨h.len, h.own.fresh ht, h.new, fun r hr => (h.recs r hr).fresh ht, h.turned.trans ht (fun _ e => e) (fun _ e => e.elim)⟩
theorem RowsAt.snoc {w0 w w' : World} {A A' : Option Addr} {n c c' : Nat} {rows : List (Rec × RecS)} {r : Rec × RecS} (h : RowsAt w0 A n c rows w) (hr : RecOwn w w0.heap.size r.1 r.2) (o : OwnE w' 39 11 A' (n + 1) c' (rcells rows ++ (recC r.1 r.2).toList)) (a : App2 w w' A A' c c') : RowsAt w0 A' (n + 1) c' (rows ++ [r]) w' := by
  have hm := App2.mine a h.turned h.new
  have hall : ∀ q ∈ rows ++ [r], RecOwn w w0.heap.size q.1 q.2 := fun q hq => by
    rcases List.mem_append.1 hq with hq | hq
    · exact h.recs q hq
    · rw [List.mem_singleton.1 hq]; exact hr
  refine ⟨by rw [List.length_append, h.len]; rfl, by rw [rcells_snoc]; exact o, hm.2, fun q hq => ?_, hm.1⟩
  rcases a with ⟨rfl, rfl, hne, t⟩ | ⟨rfl, t⟩
  · rcases h.own.row_or with ⟨e, _⟩ | ⟨g, e, hrow⟩
    · exact absurd e hne
    · obtain ⟨cs, hb, _⟩ := hrow.row
      exact (hall q hq).moved t (fun i e2 => by rw [e] at e2; injection e2 with e2; injection e2 with e2; exact e2.symm) hb (by decide) (by decide) (by decide)
  · exact (hall q hq).fresh t
def HFr (ls : List Int) (Rs : List Rec) (w : World) (e : Ending) (w' : World) : Prop := ∃ A c rows, e = .returned (.slice A ls.length c) ∧ rows.map Prod.fst = recsX ls Rs ∧ RowsAt w A ls.length c rows w'
def FrRel (w : World) (ls : List Int) (Rs : List Rec) (i v : Value) (wr : World) : Prop := ∃ (j : Nat) (A : Option Addr) (c : Nat) (rows : List (Rec × RecS)), j ≤ ls.length ∧ i = .int .i64 j ∧ v = .slice A j c ∧ rows.map Prod.fst = (recsX ls Rs).take j ∧ RowsAt w A j c rows wr
set_option maxRecDepth 100000 in
set_option maxHeartbeats 2000000 in
theorem hfr_any (X : LgM) (x : Int) (Rs : List Rec) (w : World) (h : LogM w X) (hs : X.ls.Pairwise (· ≤ ·)) (h0 : X.ls[0]? = some x) (hl : Rs.length = X.ls.length) (hfew : X.ls.length ≤ 10000)
    (hall : ∀ (j : Nat) (y : Int) (R : Rec), X.ls[j]? = some y → Rs[j]? = some R → ∃ i p s0 s rest, RecAtX X y R i p s0 s rest) :
    Calls Tryd.prog 16 #[.pointer (some ⟨X.L, 0, none⟩), .int .i64 x] w (HFr X.ls Rs w) := by
  have HR := Lib.hid (fun (w' : World) (t : Turned (fun _ => False) w w') (y : Int) (R : Rec) (i p : Nat) (s0 s : ShM) (rest : List Int) (hx : RecAtX X y R i p s0 s rest) => hrd_any X y R i p s0 s rest w' (h.fresh t) hx hs)
  have hc0 : X.ls.countP (· < x) = 0 := by
    rw [List.countP_eq_zero]
    intro y hy
    have h1 : X.ls = x :: X.ls.tail := by cases hX : X.ls with
      | nil => rw [hX] at h0; cases h0
      | cons a t => rw [hX] at h0; injection h0 with h0; subst h0; rfl
    rw [h1] at hs hy
    rcases List.mem_cons.1 hy with rfl | hy
    · simp
    · have := (List.pairwise_cons.1 hs).1 y hy; simp; omega
  have hct : X.ls.contains x = true := by simpa using List.mem_of_getElem? h0
  have hpos : 0 < X.ls.length := (List.getElem?_eq_some_iff.1 h0).1
  have HA := Lib.hid hall
  have HS := Lib.hid hs
  have D0 := Lib.hid (fun (w' : World) (t : Turned (fun _ => False) w w') => (show w'.cell? ⟨X.L, 0, none⟩ = some (.pointer (some ⟨X.d, 0, none⟩)) ∧ w'.cell? ⟨X.L, 6, none⟩ = some (.slice X.Al X.ls.length X.cl) ∧ OwnO w' 2 1 X.Al X.ls.length X.cl (i64s X.ls) from ⟨(h.fresh t).blk.cell 0, (h.fresh t).blk.cell 6, (h.fresh t).lsn⟩))
  have hmx := h.lsn.max
  clear h hs hall h0
  obtain ⟨L, d, first, count, turn, oldest, Sb, So, cS, Al, cl, ls, shs⟩ := X
  simp only at *
  go_enter Tryd.func16, Tryd.ntmps16
  go_wp2_with fail
  refine (lthere_yes L d w (D0.out _ (Turned.refl _ _)).1).mono ?_
  rintro e w1 ⟨rfl, rfl⟩
  have x6 : w.cell? ⟨L, 6, none⟩ = some (.slice Al ls.length cl) := (D0.out _ (Turned.refl _ _)).2.1
  go_wp2_with fail
  have hq := hsearch_any Al ls.length cl ls x w (D0.out _ (Turned.refl _ _)).2.2 rfl (by omega) HS.out
  rw [hc0, hct] at hq
  refine hq.mono ?_
  clear hq x6 hc0 hct
  rintro e w1 ⟨rfl, q, rfl⟩
  have T1 := Lib.hid ((Turned.refl (fun _ => False) w).drewN q)
  generalize w.drewN q = w1 at *
  have x6 : w1.cell? ⟨L, 6, none⟩ = some (.slice Al ls.length cl) := (D0.out _ T1.out).2.1
  obtain ⟨n, hn⟩ : ∃ n, n = ls.length := ⟨_, rfl⟩
  have HN := Lib.hid hn
  rw [← hn] at x6 hpos hfew hmx
  have hni : (n : Int) ≤ 10000 := by omega
  obtain ⟨al, ao, eA⟩ : ∃ a o, Al = some ⟨a, o, none⟩ := by
    obtain ⟨a, o, e, _⟩ := (D0.out _ T1.out).2.2.some_ (by rw [← hn]; exact hpos)
    exact ⟨a, o, e⟩
  have EA := Lib.hid eA
  clear hn
  subst eA
  have hcl : ¬ cl = 0 := by omega
  have hst := Lib.hid (show FrRel w ls Rs (.int .i64 ((0 : Nat) : Int)) (.slice none 0 0) w1 from ⟨0, none, 0, [], by omega, rfl, rfl, rfl, ⟨rfl, OwnE.nil _ _ _, (fun g e => by cases e), (fun r hr => by simp at hr), T1.out⟩⟩)
  go_wp2_with fail
  go_loopw [7, 9, 10, 11, 33] (fun v _ _ _ i wr => FrRel w ls Rs i v wr) (fun _ _ _ _ i _ => n - (intOf i).toNat)
  case atStart => exact hst.out
  case round =>
    obtain ⟨j, A, cA, rows, hj, rfl, rfl, hm, hR⟩ := hrel
    have HRW := Lib.hid hR
    have HM := Lib.hid hm
    have TR := Lib.hid hR.turned
    clear hR hm hst x6
    rw [← HN.out] at hj
    by_cases hlt : j < n
    · have hj2 : (j : Int) < (n : Int) := by omega
      obtain ⟨xj, hxj⟩ : ∃ y, ls[j]? = some y := ⟨_, List.getElem?_eq_getElem (by rw [← HN.out]; exact hlt)⟩
      obtain ⟨R, hRj⟩ : ∃ y, Rs[j]? = some y := ⟨_, List.getElem?_eq_getElem (by rw [hl, ← HN.out]; exact hlt)⟩
      obtain ⟨i, p, s0, s, rest, hx⟩ := HA.out j xj R hxj hRj
      have HX := Lib.hid hx
      clear hx
      have xa : wr.cell? ⟨al, ao + j, none⟩ = some (.int .i64 xj) := by
        obtain ⟨g, o, e, hrow⟩ := (D0.out _ TR.out).2.2.some_ (by rw [← HN.out]; exact hpos)
        injection e with e; injection e with e1 e2; subst e1 e2
        exact hrow.cell (by unfold i64s; rw [List.getElem?_map, hxj]; rfl)
      have HXJ := Lib.hid (And.intro hxj hRj)
      clear hxj hRj
      go_wp2_with fail
      refine (HR.out _ TR.out xj R i p s0 s rest HX.out).mono ?_
      rintro e w2 ⟨S1, rfl, ow, t2⟩
      have ow2 : RecOwn w2 w.heap.size { R.bare with lsn := xj } S1 := by
        have hw := TR.out.size
        exact ⟨ow.key, ow.old, ow.new, ow.dirty, ow.opn, fun g e => Nat.le_trans hw (ow.kB g e), fun g e => Nat.le_trans hw (ow.oB g e), fun g e => Nat.le_trans hw (ow.nB g e), fun g e => Nat.le_trans hw (ow.dB g e), fun g e => Nat.le_trans hw (ow.pB g e), ow.ko, ow.kn, ow.on, ow.few⟩
      have HRW := Lib.hid (HRW.out.fresh t2)
      have OW := Lib.hid ow2
      clear t2 xa ow ow2
      unfold recC Rec.bare
      simp only
      have T3 := Lib.hid (((Turned.refl (fun _ => False) w2).alloc (.cells (#[.int .i64 xj, .int .i64 R.work, .int .i64 R.prev, .int .i64 R.next, .int .u8 R.kind, .int .i64 R.page, .slice S1.K.A S1.K.n S1.K.c, .slice S1.O.A S1.O.n S1.O.c, .slice S1.N.A S1.N.n S1.N.c, .slice S1.D.A S1.D.n S1.D.c, .slice S1.P.A S1.P.n S1.P.c]) 39)).alloc (.cells (#[.int .i64 xj, .int .i64 R.work, .int .i64 R.prev, .int .i64 R.next, .int .u8 R.kind, .int .i64 R.page, .slice S1.K.A S1.K.n S1.K.c, .slice S1.O.A S1.O.n S1.O.c, .slice S1.N.A S1.N.n S1.N.c, .slice S1.D.A S1.D.n S1.D.c, .slice S1.P.A S1.P.n S1.P.c]) 39))
      go_wp2_with (at_builtin; go_loud (refine wpList_appE recT rfl (.tmp 43) (.tmp 45) rfl (HRW.out.fresh T3.out).own ⟨w2.heap.size + 1, 0, none⟩ 1 1 (#[.int .i64 xj, .int .i64 R.work, .int .i64 R.prev, .int .i64 R.next, .int .u8 R.kind, .int .i64 R.page, .slice S1.K.A S1.K.n S1.K.c, .slice S1.O.A S1.O.n S1.O.c, .slice S1.N.A S1.N.n S1.N.c, .slice S1.D.A S1.D.n S1.D.c, .slice S1.P.A S1.P.n S1.P.c]).toList rfl (new11 _ _ _ _ (by simp)) (by simp [Value.oneCell']) (by omega) (by unfold maxLen; omega) (by omega) rfl rfl ?_; intro A5 c5 w5 o5 a5; have hm5 := RowsAt.snoc (r := ({ R.bare with lsn := xj }, S1)) (HRW.out.fresh T3.out) (OW.out.fresh T3.out) o5 a5; have H5 := Lib.hid hm5; clear o5 a5 hm5))
      have H6 := Lib.hid (show FrRel w ls Rs (.int .i64 ((j + 1 : Nat) : Int)) (.slice A5 (j + 1) c5) w5 from ⟨j + 1, A5, c5, _, by rw [← HN.out]; exact hlt, rfl, rfl, by rw [List.map_append, HM.out, List.take_add_one]; unfold recsX; rw [List.getElem?_zipWith, HXJ.out.1, HXJ.out.2]; rfl, H5.out⟩)
      clear H5 HRW OW T3 HX HXJ
      go_wp2_with fail
      go_roundw
      case rel =>
        first
        | exact H6.out
        | ((repeat apply Exists.intro); exact ⟨H6.out, rfl⟩)
      case measure => simp [intOf] <;> omega
    · obtain rfl : j = n := by omega
      have hj2 : ¬ (j : Int) < (j : Int) := by omega
      go_wp2_with fail
      go_ret
      have hRW := HRW.out
      have hM := HM.out
      obtain rfl := HN.out
      refine ⟨A, cA, rows, rfl, ?_, hRW⟩
      rw [hM, List.take_of_length_le]
      unfold recsX
      rw [List.length_zipWith, hl]
      omega
end Go.Proofs.YtfheikmjjijdpaaDoor

