/-
  ytfheikmjjijdpaadoor: laws and walks on the road to LogKeeps, joined: LgF LgG. Conditions stand at each theorem.
-/
import Derived.Test.YtfheikmjjijdpaaDoorQLhA
namespace Go.Proofs.YtfheikmjjijdpaaDoor
open Go.RowKit Go.Maps
set_option linter.unusedVariables false
set_option linter.unusedSimpArgs false

theorem make0 (w : World) : (Instr.makeSlice 33 (.int .i64 0) (.int .i64 0)).run Tryd.prog w = .ok (.slice (some ⟨w.heap.size, 0, none⟩) 0 0) (w.alloc (.cells #[] 5)) := by kernel_rfl
theorem noughts_dec : decN ((noughts.drop 8).take 4) < 1 := by decide +kernel
/-- The log that has nothing. -/
def LgS.new (L d S g gb : Nat) (first count turn : Int) (cS : Nat) : LgS := ⟨L, d, S, g, gb, first, count, turn, 1, 0, cS, [], none, 0, [], 0, turn, 0, 0, 0, [], 0, true⟩
/-- A log's memory, without where it lies. -/
structure LogO (w : World) (X : LgS) : Prop where
  blk : Blk w X.L 65 (logC X.d X.first X.count X.turn X.oldest (some ⟨X.S, 0, none⟩) (X.k + 1) X.cS X.Al X.ls.length X.cl)
  shs : RowE w 68 1 X.S (X.k + 1) X.cS (X.ps ++ [.pointer (some ⟨X.g, 0, none⟩)])
  lsn : OwnE w 2 1 X.Al X.ls.length X.cl (i64s X.ls)
  sht : ShtIs w X.g X.gb X.c X.num X.tn X.bef X.used X.body X.safe X.lost
theorem LogO.lift {w : World} {B L d S g gb cS : Nat} {first count turn : Int} (h : LogO w (LgS.new L d S g gb first count turn cS)) (h1 : B ≤ L) (h2 : B ≤ S) (h3 : B ≤ g) (h4 : B ≤ gb) (h5 : 1 ≤ count ∧ count ≤ 10000) : LogW w B (LgS.new L d S g gb first count turn cS) :=
  ⟨h.blk, h.shs, rfl, h.lsn, h.sht, h1, h2, h3, h4, (fun _ e => by cases e), h5, by show 0 < 10000; omega, ⟨by show (0 : Int) ≤ 0; omega, by show (0 : Int) ≤ _; omega⟩, by show 0 ≤ 496; omega, by show 0 ≤ 10000000; omega⟩
/-- What Open's last append leaves. -/
theorem open_end {L d c5 : Nat} {first count turn : Int} {w4 w5 : World} {A5 : Option Addr} {o : Obj} {W : World} (BL : Blk w4 L 65 (logC d first count turn 1 none 0 0 none 0 0)) (hgb : RowB W 5 w4.heap.size 0 0 []) (hsh : Blk W (w4.heap.size + 1) 74 (shtC 0 turn 0 0 (some ⟨w4.heap.size, 0, none⟩) 0 0 0 true)) (T : Turned (fun _ => False) w4 W)
    (o5 : OwnE w5 68 1 A5 (0 + 1) c5 ([] ++ [.pointer (some ⟨w4.heap.size + 1, 0, none⟩)])) (a5 : App2 (W.alloc o) w5 none A5 0 c5) :
    w5.cell? ⟨L, 5, none⟩ = some (.slice none 0 0) ∧ w5.frozen? ⟨L, 5, none⟩ = false ∧ ∃ S', A5 = some ⟨S', 0, none⟩ ∧
      LogO (w5.setCell ⟨L, 5, none⟩ (.slice A5 (0 + 1) c5)) (LgS.new L d S' (w4.heap.size + 1) w4.heap.size first count turn c5) ∧ w4.heap.size ≤ S' ∧ Turned (fun i => i = L) w4 (w5.setCell ⟨L, 5, none⟩ (.slice A5 (0 + 1) c5)) := by
  rcases a5 with ⟨_, _, e, _⟩ | ⟨rfl, t⟩
  · exact absurd rfl e
  have ta := (Turned.refl (fun _ => False) W).alloc o
  have tt : Turned (fun _ => False) W w5 := ta.trans t (fun _ e => e) (fun _ e => e.elim)
  have t4 : Turned (fun _ => False) w4 w5 := T.trans tt (fun _ e => e) (fun _ e => e.elim)
  have hL := BL.lt
  have hb := BL.turned t4 (fun e => e)
  have hset := hb.set_ 5 (.slice (some ⟨(W.alloc o).heap.size, 0, none⟩) (0 + 1) c5)
  rw [logC_set5] at hset
  have ts := (Turned.refl (fun i => i = L) w5).setCell (p := ⟨L, 5, none⟩) (.inl rfl) (.slice (some ⟨(W.alloc o).heap.size, 0, none⟩) (0 + 1) c5)
  have hsz := T.size
  have hsz2 := ta.size
  have hg := hsh.lt
  refine ⟨hb.cell 5, hb.frozen 5, _, rfl, ⟨hset, o5.row.turned ts (fun e => by omega), OwnE.nil _ _ _, ⟨(hsh.turned tt (fun e => e)).turned ts (fun e => by omega), (hgb.turned tt (fun e => e)).turned ts (fun e => by omega)⟩⟩, by omega, ?_⟩
  have t5 : Turned (fun i => i = L) w4 w5 := t4.mono (fun _ e => e.elim)
  exact t5.setCell (p := ⟨L, 5, none⟩) (.inl rfl) _
def LOpen (first count turn : Int) (d : Nat) (w : World) (e : Ending) (w' : World) : Prop := ∃ L S g gb cS, e = .returned (.tuple #[.pointer (some ⟨L, 0, none⟩), .int .i64 0]) ∧ LogW w' w.heap.size (LgS.new L d S g gb first count turn cS) ∧ Turned (fun _ => False) w w'
set_option maxRecDepth 100000 in
set_option maxHeartbeats 2000000 in
theorem lopen_zero (d ms mo : Nat) (A : DA) (first count turn : Int) (w : World) (h : IsDisk w d ms mo A) (hdn : A.down = false) (hf : 0 ≤ first) (hc : 4 ≤ count) (hfc : first + count ≤ A.n) (ht : 1 ≤ turn ∧ turn < 2147483648) (hz : A.lat first = noughts) :
    Calls Tryd.prog 6 #[.pointer (some ⟨d, 0, none⟩), .int .i64 first, .int .i64 count, .int .i64 1, .int .i64 turn] w (LOpen first count turn d w) := by
  have HD := Lib.hid (fun (w' : World) (t : Turned (fun _ => False) w w') => h.fresh t)
  have hn1 := h.n1
  have hn2 := h.n2
  have hx0 := Lib.hid (show w.cell? ⟨d, 0, none⟩ = some (.int .i64 A.n) from h.blk.cell 0)
  have HR := Lib.hid (fun (w' : World) (t : Turned (fun _ => False) w w') => (by have q := read_ok d ms mo A first w' (h.fresh t) hdn hf (by omega); rw [hz] at q; exact q : Calls Tryd.prog 28 #[.pointer (some ⟨d, 0, none⟩), .int .i64 first] w' (ReadPost noughts w')))
  clear h hz hdn
  generalize A.n = N at *
  obtain ⟨ht1, ht2⟩ := ht
  have f1 : first ≤ N := by omega
  have f2 : count ≤ N - first := by omega
  have f3 : (0 : Int) < N := by omega
  have f4 : (N == 0) = false := by simp; omega
  have fw : IntKind.i64.wrap (N - first) = N - first := IntWalk.i64_in _ (by omega)
  have f5 : ¬ count < 4 := by omega
  have f6 : ¬ first < 0 := by omega
  have f7 : ¬ N < first := by omega
  have f8 : ¬ N - first < count := by omega
  have f9 : ¬ turn < 1 := by omega
  have f10 : ¬ 2147483648 ≤ turn := by omega
  have f11 : (0 : Int) < count - 1 := by omega
  have f12 : (0 : Int) % count = 0 := Int.zero_emod _
  have hmk := fun w => make0 w
  go_enter Tryd.func6, Tryd.ntmps6
  go_wp2_with fail
  refine (sectors_any d N w hx0.out).mono ?_
  rintro e w1 ⟨rfl, rfl⟩
  go_wp2_with fail
  have BL := Lib.hid (Blk.new w 65 #[.pointer (some ⟨d, 0, none⟩), .int .i64 first, .int .i64 count, .int .i64 turn, .int .i64 1, .slice none 0 0, .slice none 0 0])
  have T1 := Lib.hid ((Turned.refl (fun _ => False) w).alloc (.cells #[.pointer (some ⟨d, 0, none⟩), .int .i64 first, .int .i64 count, .int .i64 turn, .int .i64 1, .slice none 0 0, .slice none 0 0] 65))
  generalize w.alloc (.cells #[.pointer (some ⟨d, 0, none⟩), .int .i64 first, .int .i64 count, .int .i64 turn, .int .i64 1, .slice none 0 0, .slice none 0 0] 65) = w1 at *
  obtain ⟨L, hL⟩ : ∃ L, L = w.heap.size := ⟨_, rfl⟩
  rw [← hL] at BL ⊢
  have HLe := Lib.hid hL
  clear hL
  go_loopw [15, 16, 17, 18, 19, 20, 21, 22] (fun v15 _ _ _ _ _ _ _ wr => v15 = .int .i64 0 ∧ wr = w1) (fun _ _ _ _ _ _ _ _ _ => 0)
  case atStart => exact ⟨rfl, rfl⟩
  case round =>
    obtain ⟨rfl, rfl⟩ := hrel
    have x5 : wr.cell? ⟨L, 5, none⟩ = some (.slice none 0 0) := BL.out.cell 5
    go_wp2_with fail
    refine (lsector_any L first count 0 wr (BL.out.cell 1) (BL.out.cell 2) ⟨hf, by omega⟩ ⟨by omega, by omega⟩ ⟨by omega, by omega⟩).mono ?_
    rw [f12, Int.add_zero]
    rintro e w2 ⟨rfl, t2⟩
    have T2 := Lib.hid (T1.out.and_ t2)
    have BL := Lib.hid (BL.out.turned t2 (fun e => e))
    clear t2 x5
    go_wp2_with fail
    refine (HR.out _ T2.out).mono ?_
    rintro e w3 ⟨gr, cr, rfl, rr, _, t3⟩
    have T3 := Lib.hid (T2.out.and_ t3)
    have BL := Lib.hid (BL.out.turned t3 (fun e => e))
    have RR := Lib.hid rr
    clear t3 rr
    go_wp2_with fail
    refine (lread_no gr cr 0 turn noughts w3 RR.out sec_noughts.byte (.inr noughts_dec)).mono ?_
    rintro e w4 ⟨rfl, t4⟩
    have T4 := Lib.hid (T3.out.and_ t4)
    have BL := Lib.hid (BL.out.turned t4 (fun e => e))
    clear t4 RR
    have x5 : w4.cell? ⟨L, 5, none⟩ = some (.slice none 0 0) := BL.out.cell 5
    have tq := ((Turned.refl (fun _ => False) w4).alloc (.cells #[] 5)).alloc (.cells #[.int .i64 0, .int .i64 turn, .int .i64 0, .int .i64 0, .slice (some ⟨w4.heap.size, 0, none⟩) 0 0, .int .i64 0, .bool true] 74)
    have x5b : ((w4.alloc (.cells #[] 5)).alloc (.cells #[.int .i64 0, .int .i64 turn, .int .i64 0, .int .i64 0, .slice (some ⟨w4.heap.size, 0, none⟩) 0 0, .int .i64 0, .bool true] 74)).cell? ⟨L, 5, none⟩ = some (.slice none 0 0) := cell_turned tq x5 (fun e => e)
    have hgb : RowB ((w4.alloc (.cells #[] 5)).alloc (.cells #[.int .i64 0, .int .i64 turn, .int .i64 0, .int .i64 0, .slice (some ⟨w4.heap.size, 0, none⟩) 0 0, .int .i64 0, .bool true] 74)) 5 w4.heap.size 0 0 [] := ⟨rfl, Nat.le_refl _, Nat.zero_le _, #[], (Blk.new w4 5 #[]).alloc _, rfl, rfl⟩
    have hsh : Blk ((w4.alloc (.cells #[] 5)).alloc (.cells #[.int .i64 0, .int .i64 turn, .int .i64 0, .int .i64 0, .slice (some ⟨w4.heap.size, 0, none⟩) 0 0, .int .i64 0, .bool true] 74)) (w4.heap.size + 1) 74 (#[.int .i64 0, .int .i64 turn, .int .i64 0, .int .i64 0, .slice (some ⟨w4.heap.size, 0, none⟩) 0 0, .int .i64 0, .bool true]) := Blk.new_at _ _ _ (by simp)
    have HGB := Lib.hid hgb
    have HSH := Lib.hid hsh
    have TQ := Lib.hid tq
    clear hgb hsh tq
    go_wp2_with (at_builtin; go_loud (refine wpList_appE ptrT rfl (.tmp 199) (.tmp 201) rfl (OwnE.nil _ _ _) ⟨w4.heap.size + 1 + 1, 0, none⟩ 1 1 [.pointer (some ⟨w4.heap.size + 1, 0, none⟩)] rfl (new1_at _ _ 68 _ (by simp)) (by simp [Value.oneCell']) (by omega) (by unfold maxLen; omega) (by omega) rfl rfl ?_; intro A5 c5 w5 o5 a5; have hst := open_end BL.out HGB.out HSH.out TQ.out o5 a5; obtain ⟨y5, yf, S', e5, HT0, hS5, HT1⟩ := hst; subst e5; have LF := Lib.hid HT0; have TF := Lib.hid HT1; have HS5 := Lib.hid hS5; clear HT0 HT1 hS5 o5 a5))
    go_ret2
    have LF2 := LF.out
    have s1 := T4.out.size
    have e1 := HLe.out
    have e2 := HS5.out
    have TF2 := T4.out.trans (W := fun _ => False) TF.out (fun _ e => e) (fun k e => .inr (by rw [e]; omega))
    exact ⟨L, S', w4.heap.size + 1, w4.heap.size, c5, rfl, LF2.lift (by omega) (by omega) (by omega) (by omega) ⟨by omega, by omega⟩, TF2⟩
end Go.Proofs.YtfheikmjjijdpaaDoor

namespace Go.Proofs.YtfheikmjjijdpaaDoor
open Go.RowKit Go.Maps
set_option linter.unusedVariables false
set_option linter.unusedSimpArgs false

theorem LogW.far {w w' : World} {B : Nat} {X : LgS} {W : Nat → Prop} (h : LogW w B X) (ht : Turned W w w') (hW : ∀ i, B ≤ i → ¬ W i) : LogW w' B X :=
  ⟨h.blk.turned ht (hW _ h.bL), h.shs.turned ht (hW _ h.bS), h.psl, h.lsn.turned ht (fun q e => hW q (h.bl q e)), h.sht.turned ht (hW _ h.bg) (hW _ h.bb), h.bL, h.bS, h.bg, h.bb, h.bl, h.cB, h.kB, h.nB, h.hB, h.lB⟩
theorem shtL_byte {num turn bef : Int} {body : List Int} (hb : ∀ z ∈ body, isByte z) : ∀ z ∈ shtL num turn bef body, isByte z := by
  intro z hz
  unfold shtL at hz
  rcases List.mem_append.1 hz with h | h
  · rcases List.mem_append.1 h with h | h
    · rcases List.mem_append.1 h with h | h
      · rcases List.mem_append.1 h with h | h
        · rcases List.mem_append.1 h with h | h
          · exact be_byte _ _ z h
          · exact be_byte _ _ z h
        · exact be_byte _ _ z h
      · exact be_byte _ _ z h
    · exact hb z h
  · rw [List.eq_of_mem_replicate h]; exact ⟨by decide, by decide⟩
theorem shtC_set1 (num turn turn' bef used safe : Int) (A : Option Addr) (n c : Nat) (lost : Bool) : (shtC num turn bef used A n c safe lost).setIfInBounds 1 (.int .i64 turn') = shtC num turn' bef used A n c safe lost := by unfold shtC; simp only [List.setIfInBounds_toArray, List.set_cons_zero, List.set_cons_succ]
/-- The last sheet's turn is set. -/
theorem LogW.set1 {w : World} {B : Nat} {X : LgS} (h : LogW w B X) (t : Int) : LogW (w.setCell ⟨X.g, 1, none⟩ (.int .i64 t)) B { X with tn := t } := by
  obtain ⟨p1, p2, p3, p4, p5, p6⟩ := h.apart
  have ts := (Turned.refl (fun i => i = X.g) w).setCell (p := ⟨X.g, 1, none⟩) (.inl rfl) (.int .i64 t)
  have hset := h.sht.blk.set_ 1 (.int .i64 t)
  rw [shtC_set1] at hset
  exact ⟨h.blk.turned ts (fun e => p2 e), h.shs.turned ts (fun e => p4 e), h.psl, h.lsn.turned ts (fun q e e2 => (h.lsnApart e).2.2.1 e2), ⟨hset, h.sht.bod.turned ts (fun e => p6 e.symm)⟩, h.bL, h.bS, h.bg, h.bb, h.bl, h.cB, h.kB, h.nB, h.hB, h.lB⟩
def LWr (B ms mo : Nat) (X : LgS) (A : DA) (w : World) (e : Ending) (w' : World) : Prop := e = .returned (.int .i64 (codeOf (tickD A.armed))) ∧ IsDisk w' X.d ms mo (A.write (X.first + X.num % X.count) (shtL X.num X.turn X.bef X.body)) ∧ LogW w' B { X with tn := X.turn } ∧ Turned (fun i => i = X.g ∨ dskW X.d ms mo i) w w'
set_option maxRecDepth 100000 in
set_option maxHeartbeats 2000000 in
theorem lwrite_any (B ms mo : Nat) (X : LgS) (A : DA) (w : World) (h : LogW w B X) (hD : IsDisk w X.d ms mo A) (hdn : A.down = false) (hdB : ∀ i, dskW X.d ms mo i → i < B) (hBw : B ≤ w.heap.size) (hwant : X.safe ≠ (X.body.length : Int)) (hn1 : 0 < X.body.length) (hn2 : X.body.length < 496) (hb : ∀ z ∈ X.body, isByte z) (hf : 0 ≤ X.first) (hs : X.first + X.count ≤ A.n) :
    Calls Tryd.prog 46 #[.pointer (some ⟨X.L, 0, none⟩), .pointer (some ⟨X.g, 0, none⟩)] w (LWr B ms mo X A w) := by
  obtain ⟨L, d, Sb, g, gb, first, count, turn, oldest, k, cS, ps, Al, cl, ls, num, tn, bef, used, safe, body, c, lost⟩ := X
  simp only at *
  have hmx := hD.n2
  have hcb : 1 ≤ count ∧ count ≤ 10000 := h.cB
  have hnb : 0 ≤ num ∧ num ≤ 9007199254740000 := h.nB
  have mixed : Tryd.prog.follows .mixedOrders = true := by kernel_rfl
  obtain ⟨n, hn⟩ : ∃ n, n = body.length := ⟨_, rfl⟩
  rw [← hn] at hwant hn1 hn2
  have HN := Lib.hid hn
  clear hn
  have H := Lib.hid h
  have HD := Lib.hid hD
  have HdB := Lib.hid hdB
  have HB := Lib.hid hBw
  have Hb := Lib.hid hb
  have Hdn := Lib.hid hdn
  clear h hD hdB hBw hb hdn
  have e1 : (safe == (n : Int)) = false := by simpa using hwant
  have x4 : w.cell? ⟨g, 4, none⟩ = some (.slice (some ⟨gb, 0, none⟩) n c) := by have h9 : w.cell? ⟨g, 4, none⟩ = some (.slice (some ⟨gb, 0, none⟩) body.length c) := H.out.sht.blk.cell 4; rw [← HN.out] at h9; exact h9
  have x5 : w.cell? ⟨g, 5, none⟩ = some (.int .i64 safe) := H.out.sht.blk.cell 5
  go_enter Tryd.func46, Tryd.ntmps46
  go_wp2_with fail
  go_quiet (fail)
  have TQ := Lib.hid ((Turned.refl (fun _ => False) w).drewN nq)
  have H2 := Lib.hid (H.out.fresh TQ.out)
  have HD2 := Lib.hid (HD.out.fresh TQ.out)
  clear x4 x5 e1
  generalize w.drewN nq = w1 at *
  have x3 : w1.cell? ⟨L, 3, none⟩ = some (.int .i64 turn) := H2.out.blk.cell 3
  have x1 : w1.cell? ⟨g, 1, none⟩ = some (.int .i64 tn) := H2.out.sht.blk.cell 1
  have xf : w1.frozen? ⟨g, 1, none⟩ = false := H2.out.sht.blk.frozen 1
  go_wp2_with fail
  have HS := Lib.hid (H2.out.set1 turn)
  have hgB : B ≤ g := H2.out.bg
  have HD3 := Lib.hid (HD2.out.turned ((Turned.refl (fun i => i = g) w1).setCell (p := ⟨g, 1, none⟩) (.inl rfl) (.int .i64 turn)) (fun q hq e => by have h1 := HdB.out q hq; have h2 : q = g := e; omega))
  have T3 := Lib.hid ((TQ.out.mono (W' := fun i => i = g ∨ dskW d ms mo i) (fun _ e => e.elim)).setCell (p := ⟨g, 1, none⟩) (.inl (.inl rfl)) (.int .i64 turn))
  clear x3 x1 xf H H2 HD HD2 TQ
  generalize w1.setCell ⟨g, 1, none⟩ (.int .i64 turn) = w2 at *
  refine wp_region_segs (fun w' => (w'.cell? ⟨L, 0, none⟩ = some (.pointer (some ⟨d, 0, none⟩)) ∧ w'.cell? ⟨g, 0, none⟩ = some (.int .i64 num))) (segT [0, 1, 2, 3, 4, 5, 6, 7, 8, 9, 11] ++ segF [10, 12, 13] ++ segT [14]) mixed (by kernel_rfl) (fun _ _ _ _ _ h => h) ?_
  simp only [segT, segF, pickSegs, List.map_cons, List.map_nil, List.cons_append, List.nil_append, List.filterMap_cons, List.filterMap_nil, List.getElem?_cons_zero, List.getElem?_cons_succ, Option.map_some]
  have td := (Turned.refl (fun _ => False) w2).drew
  have HS := Lib.hid (HS.out.fresh td)
  have HD3 := Lib.hid (HD3.out.fresh td)
  have T3 := Lib.hid T3.out.drew
  clear td
  generalize w2.drew = v0 at *
  have hS : (v0.cell? ⟨L, 0, none⟩ = some (.pointer (some ⟨d, 0, none⟩)) ∧ v0.cell? ⟨g, 0, none⟩ = some (.int .i64 num)) := And.intro (HS.out.blk.cell 0) (HS.out.sht.blk.cell 0)
  (refine wpSegs_take (v := ?_) hS rfl (fun w' hw => ?_) ?_; rotate_left; (obtain ⟨c0, c1⟩ := hw; (focus (go_simp; (try with_reducible rfl); done))); try simp only [Act.put, List.setIfInBounds_toArray, List.set_cons_zero, List.set_cons_succ])
  (refine wpSegs_take (v := ?_) hS rfl (fun w' hw => ?_) ?_; rotate_left; (obtain ⟨c0, c1⟩ := hw; (focus (go_simp; (try with_reducible rfl); done))); try simp only [Act.put, List.setIfInBounds_toArray, List.set_cons_zero, List.set_cons_succ])
  (refine wpSegs_take (v := ?_) hS rfl (fun w' hw => ?_) ?_; rotate_left; (obtain ⟨c0, c1⟩ := hw; (focus (go_simp; (try with_reducible rfl); done))); try simp only [Act.put, List.setIfInBounds_toArray, List.set_cons_zero, List.set_cons_succ])
  (refine wpSegs_take (v := ?_) hS rfl (fun w' hw => ?_) ?_; rotate_left; (obtain ⟨c0, c1⟩ := hw; (focus (go_simp; (try with_reducible rfl); done))); try simp only [Act.put, List.setIfInBounds_toArray, List.set_cons_zero, List.set_cons_succ])
  (refine wpSegs_take (v := ?_) hS rfl (fun w' hw => ?_) ?_; rotate_left; (obtain ⟨c0, c1⟩ := hw; (focus (go_simp; (try with_reducible rfl); done))); try simp only [Act.put, List.setIfInBounds_toArray, List.set_cons_zero, List.set_cons_succ])
  (refine wpSegs_take (v := ?_) hS rfl (fun w' hw => ?_) ?_; rotate_left; (obtain ⟨c0, c1⟩ := hw; (focus (go_simp; (try with_reducible rfl); done))); try simp only [Act.put, List.setIfInBounds_toArray, List.set_cons_zero, List.set_cons_succ])
  (refine wpSegs_take (v := ?_) hS rfl (fun w' hw => ?_) ?_; rotate_left; (obtain ⟨c0, c1⟩ := hw; (focus (go_simp; (try with_reducible rfl); done))); try simp only [Act.put, List.setIfInBounds_toArray, List.set_cons_zero, List.set_cons_succ])
  (refine wpSegs_take (v := ?_) hS rfl (fun w' hw => ?_) ?_; rotate_left; (obtain ⟨c0, c1⟩ := hw; (focus (go_simp; (try with_reducible rfl); done))); try simp only [Act.put, List.setIfInBounds_toArray, List.set_cons_zero, List.set_cons_succ])
  (refine wpSegs_take (v := ?_) hS rfl (fun w' hw => ?_) ?_; rotate_left; (obtain ⟨c0, c1⟩ := hw; (focus (go_simp; (try with_reducible rfl); done))); try simp only [Act.put, List.setIfInBounds_toArray, List.set_cons_zero, List.set_cons_succ])
  (refine wpSegs_take (v := ?_) hS rfl (fun w' hw => ?_) ?_; rotate_left; (obtain ⟨c0, c1⟩ := hw; (focus (go_simp; (try with_reducible rfl); done))); try simp only [Act.put, List.setIfInBounds_toArray, List.set_cons_zero, List.set_cons_succ])
  (refine wpSegs_take (v := ?_) hS rfl (fun w' hw => ?_) ?_; rotate_left; (obtain ⟨c0, c1⟩ := hw; (focus (go_simp; (try with_reducible rfl); done))); try simp only [Act.put, List.setIfInBounds_toArray, List.set_cons_zero, List.set_cons_succ])
  refine wpSegs_run rfl (fun K hK => ?_)
  go_simp
  refine (lsector_any L first count num v0 (HS.out.blk.cell 1) (HS.out.blk.cell 2) ⟨hf, by omega⟩ ⟨hcb.1, hcb.2⟩ ⟨hnb.1, by omega⟩).mono ?_
  rintro e v1 ⟨rfl, t1⟩
  have HS := Lib.hid (HS.out.fresh t1)
  have HD3 := Lib.hid (HD3.out.fresh t1)
  have T3 := Lib.hid (T3.out.trans (W := fun i => i = g ∨ dskW d ms mo i) t1 (fun _ e => e) (fun _ e => e.elim))
  have hS := And.intro (cell_turned t1 hS.1 (fun e => e)) (cell_turned t1 hS.2 (fun e => e))
  clear t1
  refine hK.out _ _ hS ?_
  clear hK K
  try simp only [Act.put, List.setIfInBounds_toArray, List.set_cons_zero, List.set_cons_succ]
  refine wpSegs_run rfl (fun K hK => ?_)
  go_simp
  have hbo : RowB v1 5 gb n c body := by have h9 : RowB v1 5 gb body.length c body := HS.out.sht.bod; rw [← HN.out] at h9; exact h9
  have hx4 : v1.cell? ⟨g, 4, none⟩ = some (.slice (some ⟨gb, 0, none⟩) n c) := by have h9 : v1.cell? ⟨g, 4, none⟩ = some (.slice (some ⟨gb, 0, none⟩) body.length c) := HS.out.sht.blk.cell 4; rw [← HN.out] at h9; exact h9
  refine (lbytes_any g gb n c num turn bef body v1 ⟨HS.out.sht.blk.cell 0, HS.out.sht.blk.cell 1, HS.out.sht.blk.cell 2, hx4⟩ hbo HS.out.sht.blk.lt hn1 hn2).mono ?_
  clear hbo hx4
  rintro e v2 ⟨g2, c2, rfl, r2, _, t2⟩
  have R2 := Lib.hid r2
  have HS := Lib.hid (HS.out.fresh t2)
  have HD3 := Lib.hid (HD3.out.fresh t2)
  have T3 := Lib.hid (T3.out.trans (W := fun i => i = g ∨ dskW d ms mo i) t2 (fun _ e => e) (fun _ e => e.elim))
  have hS := And.intro (cell_turned t2 hS.1 (fun e => e)) (cell_turned t2 hS.2 (fun e => e))
  clear t2 r2
  refine hK.out _ _ hS ?_
  clear hK K
  try simp only [Act.put, List.setIfInBounds_toArray, List.set_cons_zero, List.set_cons_succ]
  have hm0 := Int.emod_nonneg num (show count ≠ 0 by omega)
  have hm1 := Int.emod_lt_of_pos num (show 0 < count by omega)
  refine wpSegs_run rfl (fun K hK => ?_)
  go_simp
  refine (write_ok d ms mo A (first + num % count) g2 c2 _ v2 HD3.out Hdn.out (by omega) (by omega) R2.out (shtL_byte Hb.out)).mono ?_
  rintro e v3 ⟨rfl, d3, t3⟩
  have HD4 := Lib.hid d3
  have HS4 := Lib.hid (HS.out.far t3 (fun i hi e => by have := HdB.out i e; omega))
  have T4 := Lib.hid (T3.out.trans (W := fun i => i = g ∨ dskW d ms mo i) t3 (fun _ e => e) (fun _ e => .inl (.inr e)))
  have hgd : ¬ dskW d ms mo g := fun e => by have := HdB.out g e; omega
  have hLd : ¬ dskW d ms mo L := fun e => by have h1 := HdB.out L e; have h2 : B ≤ L := HS.out.bL; omega
  have hS := And.intro (cell_turned t3 hS.1 hLd) (cell_turned t3 hS.2 hgd)
  clear t3 d3
  refine hK.out _ _ hS ?_
  clear hK K
  try simp only [Act.put, List.setIfInBounds_toArray, List.set_cons_zero, List.set_cons_succ]
  (refine wpSegs_take (v := ?_) hS rfl (fun w' hw => ?_) ?_; rotate_left; (obtain ⟨c0, c1⟩ := hw; (focus (go_simp; (try with_reducible rfl); done))); try simp only [Act.put, List.setIfInBounds_toArray, List.set_cons_zero, List.set_cons_succ])
  refine wpSegs_nil ?_
  clear hS
  go_wp2_with fail
  go_ret
  exact ⟨rfl, HD4.out, HS4.out, T4.out⟩
end Go.Proofs.YtfheikmjjijdpaaDoor

