/-
 The program's reader takes a field of a command: the lists; every letter. Conditions: the library's variables hold what their initialisers lay; at most 1000000 words.
-/
import Derived.Test.YtglojnmcbochaaaGreatDoorURdF
import Derived.Test.YtglojnmcbochaaaGreatDoorUAskI
namespace Go.Proofs.YtglojnmcbochaaaGreatDoor
open Go.RowKit Go.Maps
set_option linter.unusedVariables false
set_option linter.unusedSimpArgs false

def rdLeft (w : World) (g : Nat) : Nat := match w.cell? ⟨g, 0, none⟩ with
 | some (.slice _ n _) => n
 | _ => 0
theorem rdLeft_eq {w : World} {B g : Nat} {ws : WS} {bad : Bool} (h : RdB w B g ws bad) : rdLeft w g = ws.length := by
 obtain ⟨s, h1, h2, _⟩ := h
 unfold rdLeft
 rw [h1.cell 0]
 exact h2.len.symm
theorem RdB.slice {w : World} {B g : Nat} {ws : WS} {bad : Bool} (h : RdB w B g ws bad) : ∃ A c, w.cell? ⟨g, 0, none⟩ = some (.slice A ws.length c) := by
 obtain ⟨s, h1, h2, _⟩ := h
 refine ⟨s.A, s.c, ?_⟩
 rw [h2.len]
 exact h1.cell 0
theorem turned_app {wr W5 W9 : World} {g bx : Nat} {S6 : AskS} {V : Nat → Prop} {o : Obj} (h : Turned (· = g) wr W5) (k : Turned V (W5.alloc o) W9) (hV : ∀ i, V i → S6.P.A = some ⟨i, 0, none⟩ ∨ S6.O.A = some ⟨i, 0, none⟩) (i : Nat) (v : Value) : Turned (FldV g bx S6) wr (W9.setCell ⟨bx, i, none⟩ v) :=
 (((h.mono (W' := FldV g bx S6) (fun j e => .inl (.inl e))).alloc o).trans k (fun _ e => e) (fun j e => .inl (.inr (.inr (hV j e))))).setCell (p := ⟨bx, i, none⟩) (.inl (.inr (.inl rfl))) v
theorem turned_more {g bx : Nat} {S S6 : AskS} {W wr W10 : World} (h : Turned (FldV g bx S) W wr) (hm : FldM S S6 W) (k : Turned (FldV g bx S6) wr W10) : Turned (FldV g bx S) W W10 := h.trans k (fun _ e => e) (fun j e => hm.v e)
def Rel112 (w0 : World) (B g bx : Nat) (x : AskV) (S : AskS) (ws : WS) (bad : Bool) (W wr : World) : Prop :=
 ∃ (l : List (List UInt8 × Int)) (S6 : AskS) (ws6 : WS) (bad6 : Bool), FldW w0 B g bx { x with parts := x.parts ++ l } S6 ws6 bad6 wr ∧ partsP ws bad = (l ++ (partsP ws6 bad6).1, (partsP ws6 bad6).2) ∧ Turned (FldV g bx S) W wr ∧ FldM S S6 W
def Rel111 (w0 : World) (B g bx : Nat) (x : AskV) (S : AskS) (ws : WS) (bad : Bool) (W wr : World) : Prop :=
 ∃ (l : WS) (S6 : AskS) (ws6 : WS), FldW w0 B g bx { x with others := x.others ++ l } S6 ws6 bad wr ∧ ws = l ++ ws6 ∧ Turned (FldV g bx S) W wr ∧ FldM S S6 W
set_option maxRecDepth 100000 in
set_option maxHeartbeats 8000000 in
theorem field_112 (w0 : World) (B g bx : Nat) (x : AskV) (S : AskS) (ws : WS) (bad : Bool) (W : World) (h : FldW w0 B g bx x S ws bad W) : Calls Tryz.prog 98 #[.pointer (some ⟨g, 0, none⟩), .pointer (some ⟨bx, 0, none⟩), .int .i32 112] W (FldPost w0 B g bx x S ws bad 112 W) := by
 obtain ⟨xk, xr, xi, xq, xd, xl, xa, xt, xn, xp, xo⟩ := x
 obtain ⟨⟨PA0, Pn0, Pc0⟩, ⟨QA0, On0, Oc0⟩⟩ := S
 have h := hZ h
 have mixed : Tryz.prog.follows .mixedOrders = true := by kernel_rfl
 go_enter Tryz.func98, Tryz.ntmps98
 go_wp2_with fail
 go_loopw [] (fun wr => Rel112 w0 B g bx ⟨xk, xr, xi, xq, xd, xl, xa, xt, xn, xp, xo⟩ ⟨⟨PA0, Pn0, Pc0⟩, ⟨QA0, On0, Oc0⟩⟩ ws bad W wr) (fun wr => rdLeft wr g)
 case atStart =>
  exact ⟨[], ⟨⟨PA0, Pn0, Pc0⟩, ⟨QA0, On0, Oc0⟩⟩, ws, bad, by rw [List.append_nil]; exact h.out, rfl, Turned.refl _ _, FldM.refl _ _⟩
 case round =>
  obtain ⟨l, ⟨⟨PA, Pn, Pc⟩, ⟨QA, On, Oc⟩⟩, ws6, bad6, R6z, hez, T6z, M6z⟩ := hrel
  have R6z : FldW w0 B g bx ⟨xk, xr, xi, xq, xd, xl, xa, xt, xn, xp ++ l, xo⟩ ⟨⟨PA, Pn, Pc⟩, ⟨QA, On, Oc⟩⟩ ws6 bad6 wr := R6z
  have R6 := hZ R6z
  have he := hZ hez
  have T6 := hZ T6z
  have M6 := hZ M6z
  clear R6z hez T6z M6z
  have hmu := hZ (rdLeft_eq R6.out.rd)
  obtain ⟨RA, Rc, k0⟩ := R6.out.rd.slice
  have k1 := R6.out.rd.cells.1
  cases ws6 with
  | nil =>
   have FI := hZ (show fieldP (⟨xk, xr, xi, xq, xd, xl, xa, xt, xn, xp, xo⟩, ws, bad) 112 = (⟨xk, xr, xi, xq, xd, xl, xa, xt, xn, xp ++ l, xo⟩, [], bad6) from by
    show ((⟨xk, xr, xi, xq, xd, xl, xa, xt, xn, xp ++ (partsP ws bad).1, xo⟩ : AskV), (partsP ws bad).2) = _
    rw [he.out, partsP_nil]
    simp only [List.append_nil])
   go_wp2_with fail
   go_end0
   exact ⟨rfl, FldPost.of FI.out R6.out T6.out M6.out⟩
  | cons y t =>
   cases bad6 with
   | true =>
    have FI := hZ (show fieldP (⟨xk, xr, xi, xq, xd, xl, xa, xt, xn, xp, xo⟩, ws, bad) 112 = (⟨xk, xr, xi, xq, xd, xl, xa, xt, xn, xp ++ l, xo⟩, (y :: t), true) from by
     show ((⟨xk, xr, xi, xq, xd, xl, xa, xt, xn, xp ++ (partsP ws bad).1, xo⟩ : AskV), (partsP ws bad).2) = _
     rw [he.out, partsP_bad]
     simp only [List.append_nil])
    go_wp2_with fail
    go_end0
    exact ⟨rfl, FldPost.of FI.out R6.out T6.out M6.out⟩
   | false =>
    have hlN := hZ (show (xp ++ l).length = Pn from by
     have h5 := R6.out.own.parts.len
     rw [partC_length] at h5
     simp only at h5
     omega)
    have hNN : Pn + (t.length + 1) ≤ 1000000 := by
     have h5 := R6.out.pN
     have h6 := hlN.out
     simp only [List.length_cons] at h5
     omega
    have hiv : strOk y := by
     have h5 := R6.out.rd.mem y (by simp)
     unfold lenOk at h5
     unfold strOk
     omega
    have hli : (0 : Int) < ((y :: t).length : Int) := by simp only [List.length_cons]; omega
    have hq64 := numV_64 t
    have hst := hZ (partsP_cons y t)
    have htl := tail_le t
    have hw1 := hZ (word_any B g (y :: t) false wr R6.out.rd)
    go_wp2_with fail
    refine hw1.out.mono ?_
    rintro e W3 ⟨rfl, R3, t3⟩
    have R3 : RdB W3 B g t false := R3
    have D3 := hZ (R6.out.tk R3 t3 (by simp only [List.length_cons]; omega))
    have t3 := hZ t3
    have e0 := R3
    clear e0 R3 hw1 k0 k1
    go_wp2_with fail
    refine wp_region_ts (fun _ => True) (tsT [0, 1, 2, 3, 5, 6] (.two 4 7 (.run 7 (.take 8 (.run 9 (.run 10 (.take 11 (.take 12 (.run 13 .nil))))))) (.take 8 (.two 4 9 (.run 9 (.run 10 (.take 11 (.take 12 (.run 13 .nil))))) (.run 4 (.run 10 (.take 11 (.take 12 (.run 13 .nil))))))))) mixed (by kernel_rfl) (fun _ _ _ _ _ h => h) ?_
    simp only [tsT, tsF, List.foldr_cons, List.foldr_nil, Ts.map, zI, zJ]
    have DD := hZ (D3.out.fresh ((Turned.refl (fun _ => False) W3).drew))
    have td := hZ (t3.out.drew)
    iterate 6 (refine ts_take (v := ?_) trivial rfl (fun w' hw => ?_) ?_; rotate_left; (focus (go_simp; (try with_reducible rfl); done)); try simp only [Act.put, zA, zB, zC])
    obtain ⟨wd, hwd⟩ : ∃ wd, wd = W3.drew := ⟨_, rfl⟩
    rw [← hwd] at DD td ⊢
    clear hwd D3 t3
    refine ts_two ?_ ?_
    ·refine now_run rfl (fun K hK => ?_)
     have x9 : _ = some (Value.slice PA Pn Pc) := DD.out.aa.cell 9
     go_simp
     refine hK.out _ _ trivial ?_
     clear hK K x9
     refine ts_run rfl (fun K hK => ?_)
     go_simp
     refine (number_b B g t false w0 wd DD.out.rd DD.out.base).mono ?_
     rintro e W5 ⟨rfl, g5, t5⟩
     have D5 := hZ (DD.out.tk g5 t5 (tail_le t))
     have t5 := hZ (td.out.eq_ t5)
     clear g5 DD td
     generalize numV t = iq at *
     generalize nullB t false = b9 at *
     generalize t.tail = t9 at *
     refine hK.out _ _ trivial ?_
     clear hK K
     (refine ts_take (v := ?_) trivial rfl (fun w' hw => ?_) ?_; rotate_left; (focus (go_simp; (try with_reducible rfl); done)); try simp only [Act.put, zA, zB, zC])
     refine ts_run rfl (fun K hK => ?_)
     go_simp
     refine hK.out _ _ trivial ?_
     clear hK K
     refine ts_run rfl (fun K hK => ?_)
     refine wp_appE partT (.tmp 78) (.tmp 83) rfl (show OwnE _ 62 2 PA Pn Pc (partC (xp ++ l)) from D5.out.own.parts.fresh ((Turned.refl (fun _ => False) W5).alloc (.cells #[.string ⟨y.toArray⟩, .int .i64 iq] 62))) ⟨W5.heap.size, 0, none⟩ 1 1 [.string ⟨y.toArray⟩, .int .i64 iq] rfl (news_new2 W5 62 _ _) (by simp [Value.oneCell']) (by omega) (by unfold maxLen; omega) (by omega) rfl rfl ?_
     intro A9 c9 W9 ho9 hor9
     refine hK.out _ _ trivial ?_
     clear hK K
     try simp only [Act.put, zA, zB, zC]
     have D6 := hZ (D5.out.fresh ((Turned.refl (fun _ => False) W5).alloc (.cells #[.string ⟨y.toArray⟩, .int .i64 iq] 62)))
     have hAA := D6.out.aa.turned hor9.turned (fun e => D6.out.own.parts.blk D6.out.aa (by decide) e rfl)
     have y9 : _ = some (Value.slice PA Pn Pc) := hAA.cell 9
     have yf := hAA.frozen 9
     have R9 := hZ (D6.out.grow (x' := ⟨xk, xr, xi, xq, xd, xl, xa, xt, xn, xp ++ (l ++ [(y, iq)]), xo⟩) (S' := ⟨⟨A9, Pn + 1, c9⟩, ⟨QA, On, Oc⟩⟩) hor9.turned (fun i e => .inl e) 9 (.slice A9 (Pn + 1) c9) rfl ⟨by rw [← List.append_assoc, partC_append]; exact ho9, D6.out.own.others.turned hor9.turned (fun g e e2 => by
      obtain ⟨b1, r1⟩ := (e ▸ D6.out.own.others : OwnE _ 9 1 (some ⟨g, 0, none⟩) On Oc _).row.row
      exact D6.out.own.parts.blk r1.1 (by decide) e2 rfl), fun g e => (hor9.at_ (Nat.le_trans D5.out.bz (by simp))).elim (fun h => D5.out.own.pB g (by rw [← h.1]; exact e)) (fun ⟨g2, h1, h2⟩ => by rw [h1] at e; injection e with e; injection e with e; omega), D5.out.own.oB⟩ ⟨D6.out.ok.kind, D6.out.ok.request, D6.out.ok.item, D6.out.ok.qty, D6.out.ok.day, D6.out.ok.days, D6.out.ok.rank, D6.out.ok.lot, D6.out.ok.line, (fun p hp => by
      rw [← List.append_assoc] at hp
      rcases List.mem_append.1 hp with hp | hp
      ·exact D6.out.ok.parts p hp
      ·simp only [List.mem_singleton] at hp
       subst hp
       exact ⟨hiv, hq64⟩), D6.out.ok.others⟩ (by
      have h5 := hlN.out
      show (xp ++ (l ++ [(y, iq)])).length + t9.length ≤ 1000000
      rw [← List.append_assoc, List.length_append, h5]
      simp only [List.length_cons, List.length_nil]
      omega) (by
      have h5 := D6.out.oN
      exact h5))
     have T9 := hZ (turned_more T6.out M6.out (turned_app t5.out (S6 := ⟨⟨PA, Pn, Pc⟩, ⟨QA, On, Oc⟩⟩) (bx := bx) hor9.turned (fun i e => .inl e) 9 (.slice A9 (Pn + 1) c9)))
     have M9 := hZ (show FldM ⟨⟨PA0, Pn0, Pc0⟩, ⟨QA0, On0, Oc0⟩⟩ ⟨⟨A9, Pn + 1, c9⟩, ⟨QA, On, Oc⟩⟩ W from ⟨fun i e => (hor9.at_ (Nat.le_trans (Nat.le_trans T6.out.size t5.out.size) (by simp))).elim (fun h => M6.out.1 i (by rw [← h.1]; exact e)) (fun ⟨g2, h1, h2⟩ => by
      have e : A9 = _ := e
      rw [h1] at e; injection e with e; injection e with e; right; omega), M6.out.2⟩)
     clear hAA ho9 hor9 D5 D6
     iterate 2 (refine ts_take (v := ?_) trivial rfl (fun w' hw => ?_) ?_; rotate_left; (focus (go_simp; (try with_reducible rfl); done)); try simp only [Act.put, zA, zB, zC])
     refine ts_run rfl (fun K hK => ?_)
     go_simp
     refine hK.out _ _ trivial ?_
     clear hK K
     refine ts_nil ?_
     generalize W9.setCell ⟨bx, 9, none⟩ (.slice A9 (Pn + 1) c9) = W10 at *
     have FI := hZ (show Rel112 w0 B g bx ⟨xk, xr, xi, xq, xd, xl, xa, xt, xn, xp, xo⟩ ⟨⟨PA0, Pn0, Pc0⟩, ⟨QA0, On0, Oc0⟩⟩ ws bad W W10 from ⟨_, _, _, _, R9.out, by
      rw [he.out, hst.out]
      simp, T9.out, M9.out⟩)
     have MU := hZ (rdLeft_eq R9.out.rd)
     clear R9 y9 yf T9 M9
     go_wp2_with fail
     go_roundw
     case rel => exact FI.out
     case measure =>
      rw [hmu.out, MU.out]
      simp only [List.length_cons]
      omega
    ·refine now_run rfl (fun K hK => ?_)
     go_simp
     refine (number_b B g t false w0 wd DD.out.rd DD.out.base).mono ?_
     rintro e W5 ⟨rfl, g5, t5⟩
     have D5 := hZ (DD.out.tk g5 t5 (tail_le t))
     have t5 := hZ (td.out.eq_ t5)
     clear g5 DD td
     generalize numV t = iq at *
     generalize nullB t false = b9 at *
     generalize t.tail = t9 at *
     refine hK.out _ _ trivial ?_
     clear hK K
     (refine ts_take (v := ?_) trivial rfl (fun w' hw => ?_) ?_; rotate_left; (focus (go_simp; (try with_reducible rfl); done)); try simp only [Act.put, zA, zB, zC])
     refine ts_two ?_ ?_
     ·refine now_run rfl (fun K hK => ?_)
      have x9 : _ = some (Value.slice PA Pn Pc) := D5.out.aa.cell 9
      go_simp
      refine hK.out _ _ trivial ?_
      clear hK K x9
      refine ts_run rfl (fun K hK => ?_)
      go_simp
      refine hK.out _ _ trivial ?_
      clear hK K
      refine ts_run rfl (fun K hK => ?_)
      refine wp_appE partT (.tmp 78) (.tmp 83) rfl (show OwnE _ 62 2 PA Pn Pc (partC (xp ++ l)) from D5.out.own.parts.fresh ((Turned.refl (fun _ => False) W5).alloc (.cells #[.string ⟨y.toArray⟩, .int .i64 iq] 62))) ⟨W5.heap.size, 0, none⟩ 1 1 [.string ⟨y.toArray⟩, .int .i64 iq] rfl (news_new2 W5 62 _ _) (by simp [Value.oneCell']) (by omega) (by unfold maxLen; omega) (by omega) rfl rfl ?_
      intro A9 c9 W9 ho9 hor9
      refine hK.out _ _ trivial ?_
      clear hK K
      try simp only [Act.put, zA, zB, zC]
      have D6 := hZ (D5.out.fresh ((Turned.refl (fun _ => False) W5).alloc (.cells #[.string ⟨y.toArray⟩, .int .i64 iq] 62)))
      have hAA := D6.out.aa.turned hor9.turned (fun e => D6.out.own.parts.blk D6.out.aa (by decide) e rfl)
      have y9 : _ = some (Value.slice PA Pn Pc) := hAA.cell 9
      have yf := hAA.frozen 9
      have R9 := hZ (D6.out.grow (x' := ⟨xk, xr, xi, xq, xd, xl, xa, xt, xn, xp ++ (l ++ [(y, iq)]), xo⟩) (S' := ⟨⟨A9, Pn + 1, c9⟩, ⟨QA, On, Oc⟩⟩) hor9.turned (fun i e => .inl e) 9 (.slice A9 (Pn + 1) c9) rfl ⟨by rw [← List.append_assoc, partC_append]; exact ho9, D6.out.own.others.turned hor9.turned (fun g e e2 => by
       obtain ⟨b1, r1⟩ := (e ▸ D6.out.own.others : OwnE _ 9 1 (some ⟨g, 0, none⟩) On Oc _).row.row
       exact D6.out.own.parts.blk r1.1 (by decide) e2 rfl), fun g e => (hor9.at_ (Nat.le_trans D5.out.bz (by simp))).elim (fun h => D5.out.own.pB g (by rw [← h.1]; exact e)) (fun ⟨g2, h1, h2⟩ => by rw [h1] at e; injection e with e; injection e with e; omega), D5.out.own.oB⟩ ⟨D6.out.ok.kind, D6.out.ok.request, D6.out.ok.item, D6.out.ok.qty, D6.out.ok.day, D6.out.ok.days, D6.out.ok.rank, D6.out.ok.lot, D6.out.ok.line, (fun p hp => by
       rw [← List.append_assoc] at hp
       rcases List.mem_append.1 hp with hp | hp
       ·exact D6.out.ok.parts p hp
       ·simp only [List.mem_singleton] at hp
        subst hp
        exact ⟨hiv, hq64⟩), D6.out.ok.others⟩ (by
       have h5 := hlN.out
       show (xp ++ (l ++ [(y, iq)])).length + t9.length ≤ 1000000
       rw [← List.append_assoc, List.length_append, h5]
       simp only [List.length_cons, List.length_nil]
       omega) (by
       have h5 := D6.out.oN
       exact h5))
      have T9 := hZ (turned_more T6.out M6.out (turned_app t5.out (S6 := ⟨⟨PA, Pn, Pc⟩, ⟨QA, On, Oc⟩⟩) (bx := bx) hor9.turned (fun i e => .inl e) 9 (.slice A9 (Pn + 1) c9)))
      have M9 := hZ (show FldM ⟨⟨PA0, Pn0, Pc0⟩, ⟨QA0, On0, Oc0⟩⟩ ⟨⟨A9, Pn + 1, c9⟩, ⟨QA, On, Oc⟩⟩ W from ⟨fun i e => (hor9.at_ (Nat.le_trans (Nat.le_trans T6.out.size t5.out.size) (by simp))).elim (fun h => M6.out.1 i (by rw [← h.1]; exact e)) (fun ⟨g2, h1, h2⟩ => by
       have e : A9 = _ := e
       rw [h1] at e; injection e with e; injection e with e; right; omega), M6.out.2⟩)
      clear hAA ho9 hor9 D5 D6
      iterate 2 (refine ts_take (v := ?_) trivial rfl (fun w' hw => ?_) ?_; rotate_left; (focus (go_simp; (try with_reducible rfl); done)); try simp only [Act.put, zA, zB, zC])
      refine ts_run rfl (fun K hK => ?_)
      go_simp
      refine hK.out _ _ trivial ?_
      clear hK K
      refine ts_nil ?_
      generalize W9.setCell ⟨bx, 9, none⟩ (.slice A9 (Pn + 1) c9) = W10 at *
      have FI := hZ (show Rel112 w0 B g bx ⟨xk, xr, xi, xq, xd, xl, xa, xt, xn, xp, xo⟩ ⟨⟨PA0, Pn0, Pc0⟩, ⟨QA0, On0, Oc0⟩⟩ ws bad W W10 from ⟨_, _, _, _, R9.out, by
       rw [he.out, hst.out]
       simp, T9.out, M9.out⟩)
      have MU := hZ (rdLeft_eq R9.out.rd)
      clear R9 y9 yf T9 M9
      go_wp2_with fail
      go_roundw
      case rel => exact FI.out
      case measure =>
       rw [hmu.out, MU.out]
       simp only [List.length_cons]
       omega
     ·refine now_run rfl (fun K hK => ?_)
      go_simp
      refine hK.out _ _ trivial ?_
      clear hK K
      refine ts_run rfl (fun K hK => ?_)
      have x9 : _ = some (Value.slice PA Pn Pc) := (D5.out.fresh ((Turned.refl (fun _ => False) W5).alloc (.cells #[.string ⟨y.toArray⟩, .int .i64 iq] 62))).aa.cell 9
      go_simp
      refine hK.out _ _ trivial ?_
      clear hK K x9
      refine ts_run rfl (fun K hK => ?_)
      refine wp_appE partT (.tmp 78) (.tmp 83) rfl (show OwnE _ 62 2 PA Pn Pc (partC (xp ++ l)) from D5.out.own.parts.fresh ((Turned.refl (fun _ => False) W5).alloc (.cells #[.string ⟨y.toArray⟩, .int .i64 iq] 62))) ⟨W5.heap.size, 0, none⟩ 1 1 [.string ⟨y.toArray⟩, .int .i64 iq] rfl (news_new2 W5 62 _ _) (by simp [Value.oneCell']) (by omega) (by unfold maxLen; omega) (by omega) rfl rfl ?_
      intro A9 c9 W9 ho9 hor9
      refine hK.out _ _ trivial ?_
      clear hK K
      try simp only [Act.put, zA, zB, zC]
      have D6 := hZ (D5.out.fresh ((Turned.refl (fun _ => False) W5).alloc (.cells #[.string ⟨y.toArray⟩, .int .i64 iq] 62)))
      have hAA := D6.out.aa.turned hor9.turned (fun e => D6.out.own.parts.blk D6.out.aa (by decide) e rfl)
      have y9 : _ = some (Value.slice PA Pn Pc) := hAA.cell 9
      have yf := hAA.frozen 9
      have R9 := hZ (D6.out.grow (x' := ⟨xk, xr, xi, xq, xd, xl, xa, xt, xn, xp ++ (l ++ [(y, iq)]), xo⟩) (S' := ⟨⟨A9, Pn + 1, c9⟩, ⟨QA, On, Oc⟩⟩) hor9.turned (fun i e => .inl e) 9 (.slice A9 (Pn + 1) c9) rfl ⟨by rw [← List.append_assoc, partC_append]; exact ho9, D6.out.own.others.turned hor9.turned (fun g e e2 => by
       obtain ⟨b1, r1⟩ := (e ▸ D6.out.own.others : OwnE _ 9 1 (some ⟨g, 0, none⟩) On Oc _).row.row
       exact D6.out.own.parts.blk r1.1 (by decide) e2 rfl), fun g e => (hor9.at_ (Nat.le_trans D5.out.bz (by simp))).elim (fun h => D5.out.own.pB g (by rw [← h.1]; exact e)) (fun ⟨g2, h1, h2⟩ => by rw [h1] at e; injection e with e; injection e with e; omega), D5.out.own.oB⟩ ⟨D6.out.ok.kind, D6.out.ok.request, D6.out.ok.item, D6.out.ok.qty, D6.out.ok.day, D6.out.ok.days, D6.out.ok.rank, D6.out.ok.lot, D6.out.ok.line, (fun p hp => by
       rw [← List.append_assoc] at hp
       rcases List.mem_append.1 hp with hp | hp
       ·exact D6.out.ok.parts p hp
       ·simp only [List.mem_singleton] at hp
        subst hp
        exact ⟨hiv, hq64⟩), D6.out.ok.others⟩ (by
       have h5 := hlN.out
       show (xp ++ (l ++ [(y, iq)])).length + t9.length ≤ 1000000
       rw [← List.append_assoc, List.length_append, h5]
       simp only [List.length_cons, List.length_nil]
       omega) (by
       have h5 := D6.out.oN
       exact h5))
      have T9 := hZ (turned_more T6.out M6.out (turned_app t5.out (S6 := ⟨⟨PA, Pn, Pc⟩, ⟨QA, On, Oc⟩⟩) (bx := bx) hor9.turned (fun i e => .inl e) 9 (.slice A9 (Pn + 1) c9)))
      have M9 := hZ (show FldM ⟨⟨PA0, Pn0, Pc0⟩, ⟨QA0, On0, Oc0⟩⟩ ⟨⟨A9, Pn + 1, c9⟩, ⟨QA, On, Oc⟩⟩ W from ⟨fun i e => (hor9.at_ (Nat.le_trans (Nat.le_trans T6.out.size t5.out.size) (by simp))).elim (fun h => M6.out.1 i (by rw [← h.1]; exact e)) (fun ⟨g2, h1, h2⟩ => by
       have e : A9 = _ := e
       rw [h1] at e; injection e with e; injection e with e; right; omega), M6.out.2⟩)
      clear hAA ho9 hor9 D5 D6
      iterate 2 (refine ts_take (v := ?_) trivial rfl (fun w' hw => ?_) ?_; rotate_left; (focus (go_simp; (try with_reducible rfl); done)); try simp only [Act.put, zA, zB, zC])
      refine ts_run rfl (fun K hK => ?_)
      go_simp
      refine hK.out _ _ trivial ?_
      clear hK K
      refine ts_nil ?_
      generalize W9.setCell ⟨bx, 9, none⟩ (.slice A9 (Pn + 1) c9) = W10 at *
      have FI := hZ (show Rel112 w0 B g bx ⟨xk, xr, xi, xq, xd, xl, xa, xt, xn, xp, xo⟩ ⟨⟨PA0, Pn0, Pc0⟩, ⟨QA0, On0, Oc0⟩⟩ ws bad W W10 from ⟨_, _, _, _, R9.out, by
       rw [he.out, hst.out]
       simp, T9.out, M9.out⟩)
      have MU := hZ (rdLeft_eq R9.out.rd)
      clear R9 y9 yf T9 M9
      go_wp2_with fail
      go_roundw
      case rel => exact FI.out
      case measure =>
       rw [hmu.out, MU.out]
       simp only [List.length_cons]
       omega
set_option maxRecDepth 100000 in
set_option maxHeartbeats 8000000 in
theorem field_111 (w0 : World) (B g bx : Nat) (x : AskV) (S : AskS) (ws : WS) (bad : Bool) (W : World) (h : FldW w0 B g bx x S ws bad W) : Calls Tryz.prog 98 #[.pointer (some ⟨g, 0, none⟩), .pointer (some ⟨bx, 0, none⟩), .int .i32 111] W (FldPost w0 B g bx x S ws bad 111 W) := by
 obtain ⟨xk, xr, xi, xq, xd, xl, xa, xt, xn, xp, xo⟩ := x
 obtain ⟨⟨PA0, Pn0, Pc0⟩, ⟨QA0, On0, Oc0⟩⟩ := S
 have h := hZ h
 have mixed : Tryz.prog.follows .mixedOrders = true := by kernel_rfl
 go_enter Tryz.func98, Tryz.ntmps98
 go_wp2_with fail
 go_loopw [] (fun wr => Rel111 w0 B g bx ⟨xk, xr, xi, xq, xd, xl, xa, xt, xn, xp, xo⟩ ⟨⟨PA0, Pn0, Pc0⟩, ⟨QA0, On0, Oc0⟩⟩ ws bad W wr) (fun wr => rdLeft wr g)
 case atStart =>
  exact ⟨[], ⟨⟨PA0, Pn0, Pc0⟩, ⟨QA0, On0, Oc0⟩⟩, ws, by rw [List.append_nil]; exact h.out, rfl, Turned.refl _ _, FldM.refl _ _⟩
 case round =>
  obtain ⟨l, ⟨⟨PA, Pn, Pc⟩, ⟨QA, On, Oc⟩⟩, ws6, R6z, hez, T6z, M6z⟩ := hrel
  have R6z : FldW w0 B g bx ⟨xk, xr, xi, xq, xd, xl, xa, xt, xn, xp, xo ++ l⟩ ⟨⟨PA, Pn, Pc⟩, ⟨QA, On, Oc⟩⟩ ws6 bad wr := R6z
  have R6 := hZ R6z
  have he := hZ hez
  have T6 := hZ T6z
  have M6 := hZ M6z
  clear R6z hez T6z M6z
  have hmu := hZ (rdLeft_eq R6.out.rd)
  obtain ⟨RA, Rc, k0⟩ := R6.out.rd.slice
  have k1 := R6.out.rd.cells.1
  cases ws6 with
  | nil =>
   have FI := hZ (show fieldP (⟨xk, xr, xi, xq, xd, xl, xa, xt, xn, xp, xo⟩, ws, bad) 111 = (⟨xk, xr, xi, xq, xd, xl, xa, xt, xn, xp, xo ++ l⟩, [], bad) from by
    show ((⟨xk, xr, xi, xq, xd, xl, xa, xt, xn, xp, xo ++ ws⟩ : AskV), ([] : WS), bad) = _
    rw [he.out, List.append_nil])
   go_wp2_with fail
   go_end0
   exact ⟨rfl, FldPost.of FI.out R6.out T6.out M6.out⟩
  | cons y t =>
   have hlN := hZ (show (xo ++ l).length = On from by
    have h5 := R6.out.own.others.len
    rw [textC_length] at h5
    simp only at h5
    omega)
   have hNN : On + (t.length + 1) ≤ 1000000 := by
    have h5 := R6.out.oN
    have h6 := hlN.out
    simp only [List.length_cons] at h5
    omega
   have hiv : strOk y := by
    have h5 := R6.out.rd.mem y (by simp)
    unfold lenOk at h5
    unfold strOk
    omega
   have hli : (0 : Int) < ((y :: t).length : Int) := by simp only [List.length_cons]; omega
   have D3 := R6
   have t3 := hZ (Turned.refl (· = g) wr)
   go_wp2_with fail
   clear k0 k1
   refine wp_region_ts (fun _ => True) (tsT [0, 1, 2, 3, 5] (.two 4 6 (.run 6 (.run 7 (.run 8 (.take 9 (.take 10 (.run 11 .nil)))))) (.two 4 7 (.run 7 (.run 8 (.take 9 (.take 10 (.run 11 .nil))))) (.run 4 (.run 8 (.take 9 (.take 10 (.run 11 .nil)))))))) mixed (by kernel_rfl) (fun _ _ _ _ _ h => h) ?_
   simp only [tsT, tsF, List.foldr_cons, List.foldr_nil, Ts.map, zI, zJ]
   have DD := hZ (D3.out.fresh ((Turned.refl (fun _ => False) wr).drew))
   have td := hZ (t3.out.drew)
   iterate 5 (refine ts_take (v := ?_) trivial rfl (fun w' hw => ?_) ?_; rotate_left; (focus (go_simp; (try with_reducible rfl); done)); try simp only [Act.put, zA, zB, zC])
   obtain ⟨wd, hwd⟩ : ∃ wd, wd = wr.drew := ⟨_, rfl⟩
   rw [← hwd] at DD td ⊢
   clear hwd D3 t3
   refine ts_two ?_ ?_
   ·refine now_run rfl (fun K hK => ?_)
    have x9 : _ = some (Value.slice QA On Oc) := DD.out.aa.cell 10
    go_simp
    refine hK.out _ _ trivial ?_
    clear hK K x9
    refine ts_run rfl (fun K hK => ?_)
    go_simp
    refine (word_any B g (y :: t) bad wd DD.out.rd).mono ?_
    rintro e W5 ⟨rfl, g5, t5⟩
    have g5 : RdB W5 B g t bad := by
     simp only [List.isEmpty_cons, Bool.or_false, List.tail_cons] at g5
     exact g5
    have D5 := hZ (DD.out.tk g5 t5 (by simp only [List.length_cons]; omega))
    have t5 := hZ (td.out.eq_ t5)
    clear g5 DD td
    simp only [List.headD_cons]
    refine hK.out _ _ trivial ?_
    clear hK K
    refine ts_run rfl (fun K hK => ?_)
    go_simp
    refine hK.out _ _ trivial ?_
    clear hK K
    refine ts_run rfl (fun K hK => ?_)
    refine wp_appE textT (.tmp 99) (.tmp 102) rfl (show OwnE _ 9 1 QA On Oc (textC (xo ++ l)) from D5.out.own.others.fresh ((Turned.refl (fun _ => False) W5).alloc (.cells #[.string ⟨y.toArray⟩] 9))) ⟨W5.heap.size, 0, none⟩ 1 1 [.string ⟨y.toArray⟩] rfl (news_new1 W5 9 _) (by simp [Value.oneCell']) (by omega) (by unfold maxLen; omega) (by omega) rfl rfl ?_
    intro A9 c9 W9 ho9 hor9
    refine hK.out _ _ trivial ?_
    clear hK K
    try simp only [Act.put, zA, zB, zC]
    have D6 := hZ (D5.out.fresh ((Turned.refl (fun _ => False) W5).alloc (.cells #[.string ⟨y.toArray⟩] 9)))
    have hAA := D6.out.aa.turned hor9.turned (fun e => D6.out.own.others.blk D6.out.aa (by decide) e rfl)
    have y9 : _ = some (Value.slice QA On Oc) := hAA.cell 10
    have yf := hAA.frozen 10
    have R9 := hZ (D6.out.grow (x' := ⟨xk, xr, xi, xq, xd, xl, xa, xt, xn, xp, xo ++ (l ++ [y])⟩) (S' := ⟨⟨PA, Pn, Pc⟩, ⟨A9, On + 1, c9⟩⟩) hor9.turned (fun i e => .inr e) 10 (.slice A9 (On + 1) c9) rfl ⟨D6.out.own.parts.turned hor9.turned (fun g e e2 => by
     obtain ⟨b1, r1⟩ := (e ▸ D6.out.own.parts : OwnE _ 62 2 (some ⟨g, 0, none⟩) Pn Pc _).row.row
     exact D6.out.own.others.blk r1.1 (by decide) e2 rfl), by rw [← List.append_assoc, textC_append]; exact ho9, D5.out.own.pB, fun g e => (hor9.at_ (Nat.le_trans D5.out.bz (by simp))).elim (fun h => D5.out.own.oB g (by rw [← h.1]; exact e)) (fun ⟨g2, h1, h2⟩ => by rw [h1] at e; injection e with e; injection e with e; omega)⟩ ⟨D6.out.ok.kind, D6.out.ok.request, D6.out.ok.item, D6.out.ok.qty, D6.out.ok.day, D6.out.ok.days, D6.out.ok.rank, D6.out.ok.lot, D6.out.ok.line, D6.out.ok.parts, (fun p hp => by
     rw [← List.append_assoc] at hp
     rcases List.mem_append.1 hp with hp | hp
     ·exact D6.out.ok.others p hp
     ·simp only [List.mem_singleton] at hp
      subst hp
      exact hiv)⟩ (by
     have h5 := D6.out.pN
     exact h5) (by
     have h5 := hlN.out
     show (xo ++ (l ++ [y])).length + t.length ≤ 1000000
     rw [← List.append_assoc, List.length_append, h5]
     simp only [List.length_cons, List.length_nil]
     omega))
    have T9 := hZ (turned_more T6.out M6.out (turned_app t5.out (S6 := ⟨⟨PA, Pn, Pc⟩, ⟨QA, On, Oc⟩⟩) (bx := bx) hor9.turned (fun i e => .inr e) 10 (.slice A9 (On + 1) c9)))
    have M9 := hZ (show FldM ⟨⟨PA0, Pn0, Pc0⟩, ⟨QA0, On0, Oc0⟩⟩ ⟨⟨PA, Pn, Pc⟩, ⟨A9, On + 1, c9⟩⟩ W from ⟨M6.out.1, fun i e => (hor9.at_ (Nat.le_trans (Nat.le_trans T6.out.size t5.out.size) (by simp))).elim (fun h => M6.out.2 i (by rw [← h.1]; exact e)) (fun ⟨g2, h1, h2⟩ => by
     have e : A9 = _ := e
     rw [h1] at e; injection e with e; injection e with e; right; omega)⟩)
    clear hAA ho9 hor9 D5 D6
    iterate 2 (refine ts_take (v := ?_) trivial rfl (fun w' hw => ?_) ?_; rotate_left; (focus (go_simp; (try with_reducible rfl); done)); try simp only [Act.put, zA, zB, zC])
    refine ts_run rfl (fun K hK => ?_)
    go_simp
    refine hK.out _ _ trivial ?_
    clear hK K
    refine ts_nil ?_
    generalize W9.setCell ⟨bx, 10, none⟩ (.slice A9 (On + 1) c9) = W10 at *
    have FI := hZ (show Rel111 w0 B g bx ⟨xk, xr, xi, xq, xd, xl, xa, xt, xn, xp, xo⟩ ⟨⟨PA0, Pn0, Pc0⟩, ⟨QA0, On0, Oc0⟩⟩ ws bad W W10 from ⟨_, _, _, R9.out, by
     rw [he.out]
     simp, T9.out, M9.out⟩)
    have MU := hZ (rdLeft_eq R9.out.rd)
    clear R9 y9 yf T9 M9
    go_wp2_with fail
    go_roundw
    case rel => exact FI.out
    case measure =>
     rw [hmu.out, MU.out]
     simp only [List.length_cons]
     omega
   ·refine now_run rfl (fun K hK => ?_)
    go_simp
    refine (word_any B g (y :: t) bad wd DD.out.rd).mono ?_
    rintro e W5 ⟨rfl, g5, t5⟩
    have g5 : RdB W5 B g t bad := by
     simp only [List.isEmpty_cons, Bool.or_false, List.tail_cons] at g5
     exact g5
    have D5 := hZ (DD.out.tk g5 t5 (by simp only [List.length_cons]; omega))
    have t5 := hZ (td.out.eq_ t5)
    clear g5 DD td
    simp only [List.headD_cons]
    refine hK.out _ _ trivial ?_
    clear hK K
    refine ts_two ?_ ?_
    ·refine now_run rfl (fun K hK => ?_)
     have x9 : _ = some (Value.slice QA On Oc) := D5.out.aa.cell 10
     go_simp
     refine hK.out _ _ trivial ?_
     clear hK K x9
     refine ts_run rfl (fun K hK => ?_)
     go_simp
     refine hK.out _ _ trivial ?_
     clear hK K
     refine ts_run rfl (fun K hK => ?_)
     refine wp_appE textT (.tmp 99) (.tmp 102) rfl (show OwnE _ 9 1 QA On Oc (textC (xo ++ l)) from D5.out.own.others.fresh ((Turned.refl (fun _ => False) W5).alloc (.cells #[.string ⟨y.toArray⟩] 9))) ⟨W5.heap.size, 0, none⟩ 1 1 [.string ⟨y.toArray⟩] rfl (news_new1 W5 9 _) (by simp [Value.oneCell']) (by omega) (by unfold maxLen; omega) (by omega) rfl rfl ?_
     intro A9 c9 W9 ho9 hor9
     refine hK.out _ _ trivial ?_
     clear hK K
     try simp only [Act.put, zA, zB, zC]
     have D6 := hZ (D5.out.fresh ((Turned.refl (fun _ => False) W5).alloc (.cells #[.string ⟨y.toArray⟩] 9)))
     have hAA := D6.out.aa.turned hor9.turned (fun e => D6.out.own.others.blk D6.out.aa (by decide) e rfl)
     have y9 : _ = some (Value.slice QA On Oc) := hAA.cell 10
     have yf := hAA.frozen 10
     have R9 := hZ (D6.out.grow (x' := ⟨xk, xr, xi, xq, xd, xl, xa, xt, xn, xp, xo ++ (l ++ [y])⟩) (S' := ⟨⟨PA, Pn, Pc⟩, ⟨A9, On + 1, c9⟩⟩) hor9.turned (fun i e => .inr e) 10 (.slice A9 (On + 1) c9) rfl ⟨D6.out.own.parts.turned hor9.turned (fun g e e2 => by
      obtain ⟨b1, r1⟩ := (e ▸ D6.out.own.parts : OwnE _ 62 2 (some ⟨g, 0, none⟩) Pn Pc _).row.row
      exact D6.out.own.others.blk r1.1 (by decide) e2 rfl), by rw [← List.append_assoc, textC_append]; exact ho9, D5.out.own.pB, fun g e => (hor9.at_ (Nat.le_trans D5.out.bz (by simp))).elim (fun h => D5.out.own.oB g (by rw [← h.1]; exact e)) (fun ⟨g2, h1, h2⟩ => by rw [h1] at e; injection e with e; injection e with e; omega)⟩ ⟨D6.out.ok.kind, D6.out.ok.request, D6.out.ok.item, D6.out.ok.qty, D6.out.ok.day, D6.out.ok.days, D6.out.ok.rank, D6.out.ok.lot, D6.out.ok.line, D6.out.ok.parts, (fun p hp => by
      rw [← List.append_assoc] at hp
      rcases List.mem_append.1 hp with hp | hp
      ·exact D6.out.ok.others p hp
      ·simp only [List.mem_singleton] at hp
       subst hp
       exact hiv)⟩ (by
      have h5 := D6.out.pN
      exact h5) (by
      have h5 := hlN.out
      show (xo ++ (l ++ [y])).length + t.length ≤ 1000000
      rw [← List.append_assoc, List.length_append, h5]
      simp only [List.length_cons, List.length_nil]
      omega))
     have T9 := hZ (turned_more T6.out M6.out (turned_app t5.out (S6 := ⟨⟨PA, Pn, Pc⟩, ⟨QA, On, Oc⟩⟩) (bx := bx) hor9.turned (fun i e => .inr e) 10 (.slice A9 (On + 1) c9)))
     have M9 := hZ (show FldM ⟨⟨PA0, Pn0, Pc0⟩, ⟨QA0, On0, Oc0⟩⟩ ⟨⟨PA, Pn, Pc⟩, ⟨A9, On + 1, c9⟩⟩ W from ⟨M6.out.1, fun i e => (hor9.at_ (Nat.le_trans (Nat.le_trans T6.out.size t5.out.size) (by simp))).elim (fun h => M6.out.2 i (by rw [← h.1]; exact e)) (fun ⟨g2, h1, h2⟩ => by
      have e : A9 = _ := e
      rw [h1] at e; injection e with e; injection e with e; right; omega)⟩)
     clear hAA ho9 hor9 D5 D6
     iterate 2 (refine ts_take (v := ?_) trivial rfl (fun w' hw => ?_) ?_; rotate_left; (focus (go_simp; (try with_reducible rfl); done)); try simp only [Act.put, zA, zB, zC])
     refine ts_run rfl (fun K hK => ?_)
     go_simp
     refine hK.out _ _ trivial ?_
     clear hK K
     refine ts_nil ?_
     generalize W9.setCell ⟨bx, 10, none⟩ (.slice A9 (On + 1) c9) = W10 at *
     have FI := hZ (show Rel111 w0 B g bx ⟨xk, xr, xi, xq, xd, xl, xa, xt, xn, xp, xo⟩ ⟨⟨PA0, Pn0, Pc0⟩, ⟨QA0, On0, Oc0⟩⟩ ws bad W W10 from ⟨_, _, _, R9.out, by
      rw [he.out]
      simp, T9.out, M9.out⟩)
     have MU := hZ (rdLeft_eq R9.out.rd)
     clear R9 y9 yf T9 M9
     go_wp2_with fail
     go_roundw
     case rel => exact FI.out
     case measure =>
      rw [hmu.out, MU.out]
      simp only [List.length_cons]
      omega
    ·refine now_run rfl (fun K hK => ?_)
     go_simp
     refine hK.out _ _ trivial ?_
     clear hK K
     refine ts_run rfl (fun K hK => ?_)
     have x9 : _ = some (Value.slice QA On Oc) := (D5.out.fresh ((Turned.refl (fun _ => False) W5).alloc (.cells #[.string ⟨y.toArray⟩] 9))).aa.cell 10
     go_simp
     refine hK.out _ _ trivial ?_
     clear hK K x9
     refine ts_run rfl (fun K hK => ?_)
     refine wp_appE textT (.tmp 99) (.tmp 102) rfl (show OwnE _ 9 1 QA On Oc (textC (xo ++ l)) from D5.out.own.others.fresh ((Turned.refl (fun _ => False) W5).alloc (.cells #[.string ⟨y.toArray⟩] 9))) ⟨W5.heap.size, 0, none⟩ 1 1 [.string ⟨y.toArray⟩] rfl (news_new1 W5 9 _) (by simp [Value.oneCell']) (by omega) (by unfold maxLen; omega) (by omega) rfl rfl ?_
     intro A9 c9 W9 ho9 hor9
     refine hK.out _ _ trivial ?_
     clear hK K
     try simp only [Act.put, zA, zB, zC]
     have D6 := hZ (D5.out.fresh ((Turned.refl (fun _ => False) W5).alloc (.cells #[.string ⟨y.toArray⟩] 9)))
     have hAA := D6.out.aa.turned hor9.turned (fun e => D6.out.own.others.blk D6.out.aa (by decide) e rfl)
     have y9 : _ = some (Value.slice QA On Oc) := hAA.cell 10
     have yf := hAA.frozen 10
     have R9 := hZ (D6.out.grow (x' := ⟨xk, xr, xi, xq, xd, xl, xa, xt, xn, xp, xo ++ (l ++ [y])⟩) (S' := ⟨⟨PA, Pn, Pc⟩, ⟨A9, On + 1, c9⟩⟩) hor9.turned (fun i e => .inr e) 10 (.slice A9 (On + 1) c9) rfl ⟨D6.out.own.parts.turned hor9.turned (fun g e e2 => by
      obtain ⟨b1, r1⟩ := (e ▸ D6.out.own.parts : OwnE _ 62 2 (some ⟨g, 0, none⟩) Pn Pc _).row.row
      exact D6.out.own.others.blk r1.1 (by decide) e2 rfl), by rw [← List.append_assoc, textC_append]; exact ho9, D5.out.own.pB, fun g e => (hor9.at_ (Nat.le_trans D5.out.bz (by simp))).elim (fun h => D5.out.own.oB g (by rw [← h.1]; exact e)) (fun ⟨g2, h1, h2⟩ => by rw [h1] at e; injection e with e; injection e with e; omega)⟩ ⟨D6.out.ok.kind, D6.out.ok.request, D6.out.ok.item, D6.out.ok.qty, D6.out.ok.day, D6.out.ok.days, D6.out.ok.rank, D6.out.ok.lot, D6.out.ok.line, D6.out.ok.parts, (fun p hp => by
      rw [← List.append_assoc] at hp
      rcases List.mem_append.1 hp with hp | hp
      ·exact D6.out.ok.others p hp
      ·simp only [List.mem_singleton] at hp
       subst hp
       exact hiv)⟩ (by
      have h5 := D6.out.pN
      exact h5) (by
      have h5 := hlN.out
      show (xo ++ (l ++ [y])).length + t.length ≤ 1000000
      rw [← List.append_assoc, List.length_append, h5]
      simp only [List.length_cons, List.length_nil]
      omega))
     have T9 := hZ (turned_more T6.out M6.out (turned_app t5.out (S6 := ⟨⟨PA, Pn, Pc⟩, ⟨QA, On, Oc⟩⟩) (bx := bx) hor9.turned (fun i e => .inr e) 10 (.slice A9 (On + 1) c9)))
     have M9 := hZ (show FldM ⟨⟨PA0, Pn0, Pc0⟩, ⟨QA0, On0, Oc0⟩⟩ ⟨⟨PA, Pn, Pc⟩, ⟨A9, On + 1, c9⟩⟩ W from ⟨M6.out.1, fun i e => (hor9.at_ (Nat.le_trans (Nat.le_trans T6.out.size t5.out.size) (by simp))).elim (fun h => M6.out.2 i (by rw [← h.1]; exact e)) (fun ⟨g2, h1, h2⟩ => by
      have e : A9 = _ := e
      rw [h1] at e; injection e with e; injection e with e; right; omega)⟩)
     clear hAA ho9 hor9 D5 D6
     iterate 2 (refine ts_take (v := ?_) trivial rfl (fun w' hw => ?_) ?_; rotate_left; (focus (go_simp; (try with_reducible rfl); done)); try simp only [Act.put, zA, zB, zC])
     refine ts_run rfl (fun K hK => ?_)
     go_simp
     refine hK.out _ _ trivial ?_
     clear hK K
     refine ts_nil ?_
     generalize W9.setCell ⟨bx, 10, none⟩ (.slice A9 (On + 1) c9) = W10 at *
     have FI := hZ (show Rel111 w0 B g bx ⟨xk, xr, xi, xq, xd, xl, xa, xt, xn, xp, xo⟩ ⟨⟨PA0, Pn0, Pc0⟩, ⟨QA0, On0, Oc0⟩⟩ ws bad W W10 from ⟨_, _, _, R9.out, by
      rw [he.out]
      simp, T9.out, M9.out⟩)
     have MU := hZ (rdLeft_eq R9.out.rd)
     clear R9 y9 yf T9 M9
     go_wp2_with fail
     go_roundw
     case rel => exact FI.out
     case measure =>
      rw [hmu.out, MU.out]
      simp only [List.length_cons]
      omega
theorem field_any (w0 : World) (B g bx : Nat) (x : AskV) (S : AskS) (ws : WS) (bad : Bool) (c : Nat) (hc : c ∈ letters) (W : World) (h : FldW w0 B g bx x S ws bad W) : Calls Tryz.prog 98 #[.pointer (some ⟨g, 0, none⟩), .pointer (some ⟨bx, 0, none⟩), .int .i32 c] W (FldPost w0 B g bx x S ws bad c W) := by
 unfold letters at hc
 simp only [List.mem_cons, List.not_mem_nil, or_false] at hc
 rcases hc with rfl | rfl | rfl | rfl | rfl | rfl | rfl | rfl | rfl
 ·exact field_105 w0 B g bx x S ws bad W h
 ·exact field_113 w0 B g bx x S ws bad W h
 ·exact field_100 w0 B g bx x S ws bad W h
 ·exact field_108 w0 B g bx x S ws bad W h
 ·exact field_114 w0 B g bx x S ws bad W h
 ·exact field_116 w0 B g bx x S ws bad W h
 ·exact field_110 w0 B g bx x S ws bad W h
 ·exact field_112 w0 B g bx x S ws bad W h
 ·exact field_111 w0 B g bx x S ws bad W h
end Go.Proofs.YtglojnmcbochaaaGreatDoor

