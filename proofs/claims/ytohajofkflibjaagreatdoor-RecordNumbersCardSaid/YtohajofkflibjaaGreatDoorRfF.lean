/-
  The document's reader (storemanref19): lists. No condition but the bytes' number.
-/
import Derived.Test.YtohajofkflibjaaGreatDoorRfE
import Derived.Test.YtohajofkflibjaaGreatDoorRegC
import Derived.Test.YtohajofkflibjaaGreatDoorRecH
namespace Go.Proofs.YtohajofkflibjaaGreatDoor
open Go.RowKit Go.Maps
set_option linter.unusedVariables false
set_option linter.unusedSimpArgs false

theorem wp_appE {P : Program} {w : World} {S U q bytes : Nat} {z : Value} {A : Option Addr} {n c : Nat} {xs : List Value} {o : Oper} {a : Act} {K : Act → World → Prop} {Q : Exit → Act → World → Prop} (E : EltT P S U q bytes z) (s x : Operand) (ho : o.op = .call { callee := .builtin .append, args := #[s, x], argTypes := #[S, S] })
    (h : OwnE w U q A n c xs) (ad : Addr) (m cc : Nat) (ys : List Value) (hl : ys.length = m * q) (hnews : ∀ j u, ys[j]? = some u → w.cell? (ad.add j) = some u) (h1 : ∀ u ∈ ys, u.oneCell' = true) (hm : 0 < m) (hmx : n + m ≤ maxLen) (hb : (n + m) * bytes ≤ 140737488355328) (hs : a.eval s = .slice A n c) (hx : a.eval x = .slice (some ad) m cc)
    (hC : ∀ A' c' w', OwnE w' U q A' (n + m) c' (xs ++ ys) → App2 w w' A A' c c' → K (a.put o.dst (.slice A' (n + m) c')) w') : o.wp P a w K Q := by
  obtain ⟨A', c', w', hrun, h2, h3⟩ := run_appE (ty := o.type) E h ad m cc ys hl hnews h1 hm hmx hb
  exact Lib.wp_append_run w s x S S ho _ _ hs hx _ _ hrun (hC A' c' w' h2 h3)
def FlRel (T r xb B a n0 : Nat) (s0 : Option (List Int)) (mk : Value → Array Value) (w : World) (i : Value) (wr : World) : Prop :=
  ∃ (xs : List (Int × Int)) (k : Nat) (s1 : Option (List Int)) (A : Option Addr) (c : Nat), i = .int .i64 (xs.length : Int) ∧ xs.length + k = n0 ∧ Blk wr xb 29 (mk (.slice A xs.length c)) ∧ OwnE wr T 2 A xs.length c (pairC xs) ∧ (∀ g, A = some ⟨g, 0, none⟩ → w.heap.size ≤ g) ∧ IsF wr r B s1 ∧ (∀ ys, s1 = some ys → ∀ y ∈ ys, isByte y) ∧
    listS a n0 s0 = (xs ++ (listS a k s1).1, (listS a k s1).2) ∧ Turned (fun i => i = r ∨ i = xb) w wr
theorem FlRel.step {T r xb B a n0 k off : Nat} {s0 : Option (List Int)} {mk : Value → Array Value} {w wr w7 w9 : World} {xs : List (Int × Int)} {zs : List Int} {A A9 : Option Addr} {c c9 : Nat} {o : Obj} (hT : T ≠ 29) (hmk : ∀ v v', (mk v).setIfInBounds off v' = mk v') (hrB : r < B) (hBx : B ≤ xb) (hxw : xb < w.heap.size)
    (hk : xs.length + (k + 1) = n0) (hx : Blk wr xb 29 (mk (.slice A xs.length c))) (hg : ∀ g, A = some ⟨g, 0, none⟩ → w.heap.size ≤ g) (hs : ∀ ys, (some zs : Option (List Int)) = some ys → ∀ y ∈ ys, isByte y)
    (he : listS a n0 s0 = (xs ++ (listS a (k + 1) (some zs)).1, (listS a (k + 1) (some zs)).2)) (ht : Turned (fun i => i = r ∨ i = xb) w wr) (hR : IsF w7 r B (pairS a (some zs)).2) (t7 : Turned (· = r) wr w7)
    (ho : OwnE w9 T 2 A9 (xs.length + 1) c9 (pairC xs ++ [.int .i64 (pairS a (some zs)).1.1, .int .i64 (pairS a (some zs)).1.2])) (h9 : App2 (w7.alloc o) w9 A A9 c c9) :
    FlRel T r xb B a n0 s0 mk w (.int .i64 ((xs.length : Int) + 1)) (w9.setCell ⟨xb, off, none⟩ (.slice A9 (xs.length + 1) c9)) := by
  have t07 := ht.trans (W := fun i => i = r ∨ i = xb) t7 (fun _ e => e) (fun _ e => .inl (.inl e))
  have hg9 : ∀ g, A9 = some ⟨g, 0, none⟩ → w.heap.size ≤ g := fun g e => by
    rcases h9 with ⟨e1, _⟩ | ⟨e1, _⟩
    · exact hg g (by rw [← e1]; exact e)
    · rw [e1] at e
      injection e with e
      injection e with e
      have := t07.size
      simp at e
      omega
  have t79 : Turned (fun i => w.heap.size ≤ i) w7 w9 := ((Turned.refl (fun i => w.heap.size ≤ i) w7).alloc o).trans h9.turned (fun _ e => e) (fun g e => .inl (hg g e))
  have tS := (Turned.refl (fun i => i = xb) w9).setCell (p := ⟨xb, off, none⟩) (.inl rfl) (.slice A9 (xs.length + 1) c9)
  have hx9 := (hx.turned t7 (fun e => by omega)).turned t79 (fun e => by omega)
  have hl2 : (xs ++ [(pairS a (some zs)).1]).length = xs.length + 1 := by simp
  refine ⟨xs ++ [(pairS a (some zs)).1], k, (pairS a (some zs)).2, A9, c9, by rw [hl2]; congr 1, by rw [hl2]; omega, ?_, ?_, hg9, (hR.keep t79 (fun i e => by omega) (Nat.le_refl _)).keep tS (fun i e => by omega) (Nat.le_refl _), pairS_bytes hs, ?_, ?_⟩
  · rw [hl2]
    have := hx9.set_ off (.slice A9 (xs.length + 1) c9)
    rw [hmk] at this
    exact this
  · rw [hl2, pairC_append]
    exact ho.turned tS (fun g e e2 => ho.blk hx9 hT.symm e e2)
  · rw [he]
    show (xs ++ ((pairS a (some zs)).1 :: (listS a k (pairS a (some zs)).2).1), (listS a k (pairS a (some zs)).2).2) = _
    rw [List.append_assoc]
    rfl
  · exact (t07.trans (W := fun i => i = r ∨ i = xb) t79 (fun _ e => e) (fun i e => .inr e)).trans (W := fun i => i = r ∨ i = xb) tS (fun _ e => e) (fun i e => .inl (.inr e))
def xD (v : Value) : Array Value := #[.int .i64 0, .int .i64 0, .int .i64 0, .int .i64 0, .int .u8 5, .int .i64 0, .slice none 0 0, .slice none 0 0, .slice none 0 0, v, .slice none 0 0]
def xP (d : Value) (v : Value) : Array Value := #[.int .i64 0, .int .i64 0, .int .i64 0, .int .i64 0, .int .u8 5, .int .i64 0, .slice none 0 0, .slice none 0 0, .slice none 0 0, d, v]
theorem xD_set (v v' : Value) : (xD v).setIfInBounds 9 v' = xD v' := by unfold xD; simp only [List.setIfInBounds_toArray, List.set_cons_zero, List.set_cons_succ]
theorem xP_set (d v v' : Value) : (xP d v).setIfInBounds 10 v' = xP d v' := by unfold xP; simp only [List.setIfInBounds_toArray, List.set_cons_zero, List.set_cons_succ]
def FListPost (r B xb : Nat) (s : Option (List Int)) (w : World) (e : Ending) (w' : World) : Prop :=
  ∃ Ad cd Ap cp, e = .returned (.tuple #[]) ∧ Blk w' xb 29 (xP (.slice Ad (listN 2 s).1.length cd) (.slice Ap (listN 8 (listN 2 s).2).1.length cp)) ∧ OwnE w' 52 2 Ad (listN 2 s).1.length cd (pairC (listN 2 s).1) ∧ OwnE w' 54 2 Ap (listN 8 (listN 2 s).2).1.length cp (pairC (listN 8 (listN 2 s).2).1) ∧
    (∀ g, Ad = some ⟨g, 0, none⟩ → w.heap.size ≤ g) ∧ (∀ g, Ap = some ⟨g, 0, none⟩ → w.heap.size ≤ g) ∧ IsF w' r B (listN 8 (listN 2 s).2).2 ∧ Turned (fun i => i = r ∨ i = xb) w w'
set_option maxRecDepth 100000 in
set_option maxHeartbeats 4000000 in
theorem flists_any (r B xb : Nat) (s : Option (List Int)) (w : World) (h : IsF w r B s) (hBx : B ≤ xb) (hX : Blk w xb 29 (xD (.slice none 0 0))) (hs : ∀ ys, s = some ys → ∀ y ∈ ys, isByte y) : Calls Tryz.prog 63 #[.pointer (some ⟨r, 0, none⟩), .pointer (some ⟨xb, 0, none⟩)] w (FListPost r B xb s w) := by
  have mixed : Tryz.prog.follows .mixedOrders = true := by kernel_rfl
  have hxw := hX.lt
  have hrB := h.lt.2
  have hBw : B ≤ w.heap.size := by omega
  obtain ⟨n0, hn0, hn1⟩ := numS2_nat s hs
  have hN := fnum_any r B 2 s w h hBw (by omega) hs
  unfold NmPost at hN
  rw [hn0] at hN
  have hN' := Lib.hid hN
  have hb1 := Lib.hid (numS_bytes (k := 2) hs)
  have hLN := Lib.hid (show listN 2 s = listS 2 n0 (numS 2 s).2 by unfold listN; rw [hn0, Int.toNat_natCast])
  have hX := Lib.hid hX
  have hlb := Lib.hid (listN_bytes (a := 2) (by omega) hs)
  clear hN h hs hn0
  generalize (numS 2 s).2 = s0 at *
  go_enter Tryz.func63, Tryz.ntmps63
  go_wp2_with fail
  refine hN'.out.mono ?_
  rintro e w1 ⟨rfl, hR1, t1⟩
  obtain ⟨wl, hwl⟩ : ∃ wl, wl = w := ⟨_, rfl⟩
  subst hwl
  have hst0 := Lib.hid (show FlRel 52 r xb B 2 n0 s0 xD wl (.int .i64 0) w1 from ⟨[], n0, s0, none, 0, rfl, by simp, hX.out.turned t1 (fun e => by omega), OwnE.nil _ _ _, (fun g e => by cases e), hR1, hb1.out, by simp, t1.mono (fun _ e => .inl (.inl e))⟩)
  clear hN' hR1 t1 hX hb1
  go_wp2_with fail
  go_loopw [5] (fun i wr => FlRel 52 r xb B 2 n0 s0 xD wl i wr) (fun i _ => n0 - (intOf i).toNat)
  case atStart => exact hst0.out
  case round =>
    obtain ⟨ds, k, s1, Ad, cd, rfl, hk, hx, ho, hg, hR, hs1, he, ht⟩ := hrel
    have hx := Lib.hid hx
    have ho := Lib.hid ho
    have hg := Lib.hid hg
    have ht := Lib.hid ht
    have hlw := Nat.le_trans hBw ht.out.size
    have hxl : ds.length ≤ 65535 := by omega
    clear hst0
    by_cases hk0 : 0 < k
    · have hki : (ds.length : Int) < (n0 : Int) := by omega
      cases s1 with
      | none =>
        have q1 : wr.cell? ⟨r, 1, none⟩ = some (.bool true) := by obtain ⟨_, _, _, _, hb, _⟩ := hR; exact hb.cell 1
        have he2 := Lib.hid (show listS 2 n0 s0 = (ds, none) by rw [he, listS_stop 2 k none (.inr rfl), List.append_nil])
        have hR := Lib.hid hR
        clear he hs1
        have hld := Lib.hid (show listN 2 s = (ds, none) by rw [hLN.out, he2.out])
        have hs1 : ∀ ys, none = some ys → ∀ y ∈ ys, isByte y := fun ys e y hy => hlb.out ys (by rw [hld.out]; exact e) y hy
        obtain ⟨n1, hn1a, hn1c⟩ := numS2_nat none hs1
        have hn1b := Lib.hid hn1a
        have hM := fnum_any r B 2 none wr hR.out hlw (by omega) hs1
        unfold NmPost at hM
        rw [hn1a] at hM
        have hM' := Lib.hid hM
        have hb2 := Lib.hid (numS_bytes (k := 2) hs1)
        have htd := Lib.hid ht.out
        have hod := Lib.hid ho.out
        have hgd := Lib.hid hg.out
        have hxm : xb < wr.heap.size := hx.out.lt
        have hBm := hlw
        clear hM hs1 hn1a he2 ht hg ho
        go_wp2_with fail
        refine hM'.out.mono ?_
        rintro e w2 ⟨rfl, hR2, t2⟩
        obtain ⟨s2, hs2⟩ : ∃ s2, s2 = (numS 2 none).2 := ⟨_, rfl⟩
        rw [← hs2] at hR2 hb2
        have hs2 := Lib.hid hs2
        have hst1 := Lib.hid (show FlRel 54 r xb B 8 n1 s2 (xP (.slice Ad ds.length cd)) wr (.int .i64 0) w2 from ⟨[], n1, s2, none, 0, rfl, by simp, hx.out.turned t2 (fun e => by omega), OwnE.nil _ _ _, (fun g e => by cases e), hR2, hb2.out, by simp, t2.mono (fun _ e => .inl (.inl e))⟩)
        have hod := Lib.hid hod.out
        clear hM' hR2 t2 hb2 hx hR q1
        obtain ⟨wm, hwm⟩ : ∃ wm, wm = wr := ⟨_, rfl⟩
        subst hwm
        go_wp2_with fail
        go_loopw [7] (fun i wr => FlRel 54 r xb B 8 n1 s2 (xP (.slice Ad ds.length cd)) wm i wr) (fun i _ => n1 - (intOf i).toNat)
        case atStart => exact hst1.out
        case round =>
          obtain ⟨ps, k, s3, Ap, cp, rfl, hk, hx, ho, hg, hR, hs1, he, ht⟩ := hrel
          have hx := Lib.hid hx
          have ho := Lib.hid ho
          have hg := Lib.hid hg
          have ht := Lib.hid ht
          have hlw := Nat.le_trans hBm ht.out.size
          have hxl : ps.length ≤ 65535 := by omega
          clear hst1
          by_cases hk0 : 0 < k
          · have hki : (ps.length : Int) < (n1 : Int) := by omega
            cases s3 with
            | none =>
              have q1 : wr.cell? ⟨r, 1, none⟩ = some (.bool true) := by obtain ⟨_, _, _, _, hb, _⟩ := hR; exact hb.cell 1
              have he2 := Lib.hid (show listS 8 n1 s2 = (ps, none) by rw [he, listS_stop 8 k none (.inr rfl), List.append_nil])
              have hR := Lib.hid hR
              clear he hs1
              have hlp := Lib.hid (show listN 8 none = (ps, none) by unfold listN; rw [hn1b.out, Int.toNat_natCast]; rw [← hs2.out]; exact he2.out)
              go_wp2_with fail
              go_end0
              have e1 : (listN 2 s).1 = ds := by rw [hld.out]
              have e2 : listN 8 (listN 2 s).2 = (ps, none) := by rw [hld.out]; exact hlp.out
              refine ⟨Ad, cd, Ap, cp, rfl, ?_, ?_, ?_, hgd.out, fun g e => Nat.le_trans htd.out.size (hg.out g e), ?_, htd.out.trans (W := fun i => i = r ∨ i = xb) ht.out (fun _ e => e) (fun _ e => .inl e)⟩
              · rw [e1, e2]; exact hx.out
              · rw [e1]; exact hod.out.turned ht.out (fun g e e2 => by have := hgd.out g e; omega)
              · rw [e2]; exact ho.out
              · rw [e2]; exact hR.out
            | some zs =>
              obtain ⟨k', rfl⟩ : ∃ k', k = k' + 1 := ⟨k - 1, by omega⟩
              have q1 : wr.cell? ⟨r, 1, none⟩ = some (.bool false) := by obtain ⟨_, _, _, _, hb, _⟩ := hR; exact hb.cell 1
              have HN1 := Lib.hid (fnum_any r B 8 (some zs) wr hR hlw (by omega) hs1)
              have HN2 := Lib.hid (fun (w' : World) (h : IsF w' r B (numS 8 (some zs)).2) (hB : B ≤ w'.heap.size) => fnum_any r B 8 _ w' h hB (by omega) (numS_bytes (k := 8) hs1))
              have hst := Lib.hid (fun (w7 w9 : World) (A9 : Option Addr) (c9 : Nat) (o : Obj) (hR7 : IsF w7 r B (pairS 8 (some zs)).2) (t7 : Turned (· = r) wr w7) (ho9 : OwnE w9 54 2 A9 (ps.length + 1) c9 (pairC ps ++ [.int .i64 (pairS 8 (some zs)).1.1, .int .i64 (pairS 8 (some zs)).1.2])) (h9 : App2 (w7.alloc o) w9 Ap A9 cp c9) => FlRel.step (T := 54) (off := 10) (s0 := s2) (by decide) (xP_set _) hrB hBx hxm hk hx.out hg.out hs1 he ht.out hR7 t7 ho9 h9)
              have hpS : pairS 8 (some zs) = (((numS 8 (some zs)).1, (numS 8 (numS 8 (some zs)).2).1), (numS 8 (numS 8 (some zs)).2).2) := rfl
              rw [hpS] at hst
              clear hR hs1 he hpS
              unfold NmPost at HN1 HN2
              generalize (numS 8 (some zs)).1 = px at *
              generalize (numS 8 (numS 8 (some zs)).2).1 = py at *
              generalize (numS 8 (numS 8 (some zs)).2).2 = s9 at *
              generalize (numS 8 (some zs)).2 = s8 at *
              go_wp2_with fail
              refine HN1.out.mono ?_
              rintro e w5 ⟨rfl, hR5, t5⟩
              have hR5 := Lib.hid hR5
              have U5 := Lib.hid t5
              have hw5 := Lib.hid (Nat.le_trans hlw t5.size)
              have x5 : w5.cell? ⟨xb, 10, none⟩ = some (.slice Ap ps.length cp) := (hx.out.turned t5 (fun e => by omega)).cell 10
              have x5d : w5.drew.cell? ⟨xb, 10, none⟩ = some (.slice Ap ps.length cp) := x5
              clear t5 HN1
              go_wp2_with fail
              refine wp_region_tr (fun _ => True) (trT [0, 1, 2, 3, 5, 6] (.two 4 7 (.run 7 (.take 8 (.run 9 (.run 10 (trT [11, 12] (.run 13 .nil)))))) (.take 8 (.two 4 9 (.run 9 (.run 10 (trT [11, 12] (.run 13 .nil)))) (.run 4 (.run 10 (trT [11, 12] (.run 13 .nil)))))))) mixed (by kernel_rfl) (fun _ _ _ _ _ h => h) ?_
              simp only [trT, List.foldr_cons, List.foldr_nil, Tr.map, List.getElem?_cons_zero, List.getElem?_cons_succ]
              iterate 6 (refine tr_take (v := ?_) trivial rfl (fun w' hw => ?_) ?_; rotate_left; (focus (go_simp; (try with_reducible rfl); done)); try simp only [Act.put, List.setIfInBounds_toArray, List.set_cons_zero, List.set_cons_succ])
              refine tr_two ?_ ?_
              · refine now_run rfl (fun K hK => ?_)
                go_simp
                refine hK.out _ _ trivial ?_
                clear hK K
                refine tr_run rfl (fun K hK => ?_)
                go_simp
                refine (HN2.out _ (hR5.out.fresh ((Turned.refl (fun _ => False) w5).drew) (Nat.le_refl _)) (by have := hw5.out; exact this)).mono ?_
                rintro e w7 ⟨rfl, hR7, t7⟩
                have R7 := Lib.hid hR7
                have U7 := Lib.hid (U5.out.trans (W := (· = r)) (Turned.of_drewN (n := 1) t7) (fun _ e => e) (fun _ e => .inl e))
                have x9 : w7.cell? ⟨xb, 10, none⟩ = some (.slice Ap ps.length cp) := (hx.out.turned U7.out (fun e => by omega)).cell 10
                have O7 := Lib.hid (ho.out.turned U7.out (fun g e e2 => by have := hg.out g e; omega))
                clear t7 hR7
                refine hK.out _ _ trivial ?_
                clear hK K
                (refine tr_take (v := ?_) trivial rfl (fun w' hw => ?_) ?_; rotate_left; (focus (go_simp; (try with_reducible rfl); done)); try simp only [Act.put, List.setIfInBounds_toArray, List.set_cons_zero, List.set_cons_succ])
                have x9a := cell_turned ((Turned.refl (fun _ => False) w7).alloc (.cells #[.int .i64 px, .int .i64 py] 54)) x9 (fun e => e)
                refine tr_run rfl (fun K hK => ?_)
                go_simp
                refine hK.out _ _ trivial ?_
                clear hK K
                refine tr_run rfl (fun K hK => ?_)
                refine wp_appE openT (.tmp 58) (.tmp 63) rfl (O7.out.turned ((Turned.refl (fun _ => False) w7).alloc _) (fun _ _ e => e)) ⟨w7.heap.size, 0, none⟩ 1 1 [.int .i64 px, .int .i64 py] rfl (news_new w7 54 [.int .i64 px, .int .i64 py]) (by simp [Value.oneCell']) (by omega) (by unfold maxLen; omega) (by omega) rfl rfl ?_
                intro A9 c9 w9 ho9 hor9
                refine hK.out _ _ trivial ?_
                clear hK K
                try simp only [Act.put, List.setIfInBounds_toArray, List.set_cons_zero, List.set_cons_succ]
                have hx9 := (hx.out.turned U7.out (fun e => by omega)).turned (((Turned.refl (fun i => wm.heap.size ≤ i) w7).alloc _).trans (W := fun i => wm.heap.size ≤ i) hor9.turned (fun _ e => e) (fun g e => .inl (hg.out g e))) (fun e => by omega)
                have xf := hx9.frozen 10
                have x9b : w9.cell? ⟨xb, 10, none⟩ = some (.slice Ap ps.length cp) := hx9.cell 10
                have hR := Lib.hid (hst.out w7 w9 A9 c9 _ R7.out U7.out ho9 hor9)
                clear hx9 ho9 hor9
                iterate 2 (refine tr_take (v := ?_) trivial rfl (fun w' hw => ?_) ?_; rotate_left; (focus (go_simp; (try with_reducible rfl); done)); try simp only [Act.put, List.setIfInBounds_toArray, List.set_cons_zero, List.set_cons_succ])
                refine tr_run rfl (fun K hK => ?_)
                go_simp
                refine hK.out _ _ trivial ?_
                clear hK K
                refine tr_nil ?_
                go_wp2_with fail
                exact ⟨hR.out, by simp [intOf]; omega⟩
              · refine now_run rfl (fun K hK => ?_)
                go_simp
                refine (HN2.out _ (hR5.out.fresh ((Turned.refl (fun _ => False) w5).drew) (Nat.le_refl _)) (by have := hw5.out; exact this)).mono ?_
                rintro e w7 ⟨rfl, hR7, t7⟩
                have R7 := Lib.hid hR7
                have U7 := Lib.hid (U5.out.trans (W := (· = r)) (Turned.of_drewN (n := 1) t7) (fun _ e => e) (fun _ e => .inl e))
                have x9 : w7.cell? ⟨xb, 10, none⟩ = some (.slice Ap ps.length cp) := (hx.out.turned U7.out (fun e => by omega)).cell 10
                have O7 := Lib.hid (ho.out.turned U7.out (fun g e e2 => by have := hg.out g e; omega))
                clear t7 hR7
                refine hK.out _ _ trivial ?_
                clear hK K
                (refine tr_take (v := ?_) trivial rfl (fun w' hw => ?_) ?_; rotate_left; (focus (go_simp; (try with_reducible rfl); done)); try simp only [Act.put, List.setIfInBounds_toArray, List.set_cons_zero, List.set_cons_succ])
                refine tr_two ?_ ?_
                · refine now_run rfl (fun K hK => ?_)
                  go_simp
                  refine hK.out _ _ trivial ?_
                  clear hK K
                  have x9a := cell_turned ((Turned.refl (fun _ => False) w7).alloc (.cells #[.int .i64 px, .int .i64 py] 54)) x9 (fun e => e)
                  refine tr_run rfl (fun K hK => ?_)
                  go_simp
                  refine hK.out _ _ trivial ?_
                  clear hK K
                  refine tr_run rfl (fun K hK => ?_)
                  refine wp_appE openT (.tmp 58) (.tmp 63) rfl (O7.out.turned ((Turned.refl (fun _ => False) w7).alloc _) (fun _ _ e => e)) ⟨w7.heap.size, 0, none⟩ 1 1 [.int .i64 px, .int .i64 py] rfl (news_new w7 54 [.int .i64 px, .int .i64 py]) (by simp [Value.oneCell']) (by omega) (by unfold maxLen; omega) (by omega) rfl rfl ?_
                  intro A9 c9 w9 ho9 hor9
                  refine hK.out _ _ trivial ?_
                  clear hK K
                  try simp only [Act.put, List.setIfInBounds_toArray, List.set_cons_zero, List.set_cons_succ]
                  have hx9 := (hx.out.turned U7.out (fun e => by omega)).turned (((Turned.refl (fun i => wm.heap.size ≤ i) w7).alloc _).trans (W := fun i => wm.heap.size ≤ i) hor9.turned (fun _ e => e) (fun g e => .inl (hg.out g e))) (fun e => by omega)
                  have xf := hx9.frozen 10
                  have x9b : w9.cell? ⟨xb, 10, none⟩ = some (.slice Ap ps.length cp) := hx9.cell 10
                  have hR := Lib.hid (hst.out w7 w9 A9 c9 _ R7.out U7.out ho9 hor9)
                  clear hx9 ho9 hor9
                  iterate 2 (refine tr_take (v := ?_) trivial rfl (fun w' hw => ?_) ?_; rotate_left; (focus (go_simp; (try with_reducible rfl); done)); try simp only [Act.put, List.setIfInBounds_toArray, List.set_cons_zero, List.set_cons_succ])
                  refine tr_run rfl (fun K hK => ?_)
                  go_simp
                  refine hK.out _ _ trivial ?_
                  clear hK K
                  refine tr_nil ?_
                  go_wp2_with fail
                  exact ⟨hR.out, by simp [intOf]; omega⟩
                · have x9a := cell_turned ((Turned.refl (fun _ => False) w7).alloc (.cells #[.int .i64 px, .int .i64 py] 54)) x9 (fun e => e)
                  refine now_run rfl (fun K hK => ?_)
                  go_simp
                  refine hK.out _ _ trivial ?_
                  clear hK K
                  refine tr_run rfl (fun K hK => ?_)
                  go_simp
                  refine hK.out _ _ trivial ?_
                  clear hK K
                  refine tr_run rfl (fun K hK => ?_)
                  refine wp_appE openT (.tmp 58) (.tmp 63) rfl (O7.out.turned ((Turned.refl (fun _ => False) w7).alloc _) (fun _ _ e => e)) ⟨w7.heap.size, 0, none⟩ 1 1 [.int .i64 px, .int .i64 py] rfl (news_new w7 54 [.int .i64 px, .int .i64 py]) (by simp [Value.oneCell']) (by omega) (by unfold maxLen; omega) (by omega) rfl rfl ?_
                  intro A9 c9 w9 ho9 hor9
                  refine hK.out _ _ trivial ?_
                  clear hK K
                  try simp only [Act.put, List.setIfInBounds_toArray, List.set_cons_zero, List.set_cons_succ]
                  have hx9 := (hx.out.turned U7.out (fun e => by omega)).turned (((Turned.refl (fun i => wm.heap.size ≤ i) w7).alloc _).trans (W := fun i => wm.heap.size ≤ i) hor9.turned (fun _ e => e) (fun g e => .inl (hg.out g e))) (fun e => by omega)
                  have xf := hx9.frozen 10
                  have x9b : w9.cell? ⟨xb, 10, none⟩ = some (.slice Ap ps.length cp) := hx9.cell 10
                  have hR := Lib.hid (hst.out w7 w9 A9 c9 _ R7.out U7.out ho9 hor9)
                  clear hx9 ho9 hor9
                  iterate 2 (refine tr_take (v := ?_) trivial rfl (fun w' hw => ?_) ?_; rotate_left; (focus (go_simp; (try with_reducible rfl); done)); try simp only [Act.put, List.setIfInBounds_toArray, List.set_cons_zero, List.set_cons_succ])
                  refine tr_run rfl (fun K hK => ?_)
                  go_simp
                  refine hK.out _ _ trivial ?_
                  clear hK K
                  refine tr_nil ?_
                  go_wp2_with fail
                  exact ⟨hR.out, by simp [intOf]; omega⟩
          · obtain rfl : k = 0 := by omega
            have hge : (n1 : Int) ≤ (ps.length : Int) := by omega
            have he2 := Lib.hid (show listS 8 n1 s2 = (ps, s3) by rw [he, listS_stop 8 0 s3 (.inl rfl), List.append_nil])
            have hR := Lib.hid hR
            clear he hs1
            have hlp := Lib.hid (show listN 8 none = (ps, s3) by unfold listN; rw [hn1b.out, Int.toNat_natCast]; rw [← hs2.out]; exact he2.out)
            go_wp2_with fail
            go_end0
            have e1 : (listN 2 s).1 = ds := by rw [hld.out]
            have e2 : listN 8 (listN 2 s).2 = (ps, s3) := by rw [hld.out]; exact hlp.out
            refine ⟨Ad, cd, Ap, cp, rfl, ?_, ?_, ?_, hgd.out, fun g e => Nat.le_trans htd.out.size (hg.out g e), ?_, htd.out.trans (W := fun i => i = r ∨ i = xb) ht.out (fun _ e => e) (fun _ e => .inl e)⟩
            · rw [e1, e2]; exact hx.out
            · rw [e1]; exact hod.out.turned ht.out (fun g e e2 => by have := hgd.out g e; omega)
            · rw [e2]; exact ho.out
            · rw [e2]; exact hR.out

      | some zs =>
        obtain ⟨k', rfl⟩ : ∃ k', k = k' + 1 := ⟨k - 1, by omega⟩
        have q1 : wr.cell? ⟨r, 1, none⟩ = some (.bool false) := by obtain ⟨_, _, _, _, hb, _⟩ := hR; exact hb.cell 1
        have HN1 := Lib.hid (fnum_any r B 2 (some zs) wr hR hlw (by omega) hs1)
        have HN2 := Lib.hid (fun (w' : World) (h : IsF w' r B (numS 2 (some zs)).2) (hB : B ≤ w'.heap.size) => fnum_any r B 8 _ w' h hB (by omega) (numS_bytes (k := 2) hs1))
        have hst := Lib.hid (fun (w7 w9 : World) (A9 : Option Addr) (c9 : Nat) (o : Obj) (hR7 : IsF w7 r B (pairS 2 (some zs)).2) (t7 : Turned (· = r) wr w7) (ho9 : OwnE w9 52 2 A9 (ds.length + 1) c9 (pairC ds ++ [.int .i64 (pairS 2 (some zs)).1.1, .int .i64 (pairS 2 (some zs)).1.2])) (h9 : App2 (w7.alloc o) w9 Ad A9 cd c9) => FlRel.step (T := 52) (off := 9) (s0 := s0) (by decide) xD_set hrB hBx hxw hk hx.out hg.out hs1 he ht.out hR7 t7 ho9 h9)
        have hpS : pairS 2 (some zs) = (((numS 2 (some zs)).1, (numS 8 (numS 2 (some zs)).2).1), (numS 8 (numS 2 (some zs)).2).2) := rfl
        rw [hpS] at hst
        clear hR hs1 he hpS
        unfold NmPost at HN1 HN2
        generalize (numS 2 (some zs)).1 = px at *
        generalize (numS 8 (numS 2 (some zs)).2).1 = py at *
        generalize (numS 8 (numS 2 (some zs)).2).2 = s9 at *
        generalize (numS 2 (some zs)).2 = s8 at *
        go_wp2_with fail
        refine HN1.out.mono ?_
        rintro e w5 ⟨rfl, hR5, t5⟩
        have hR5 := Lib.hid hR5
        have U5 := Lib.hid t5
        have hw5 := Lib.hid (Nat.le_trans hlw t5.size)
        have x5 : w5.cell? ⟨xb, 9, none⟩ = some (.slice Ad ds.length cd) := (hx.out.turned t5 (fun e => by omega)).cell 9
        have x5d : w5.drew.cell? ⟨xb, 9, none⟩ = some (.slice Ad ds.length cd) := x5
        clear t5 HN1
        go_wp2_with fail
        refine wp_region_tr (fun _ => True) (trT [0, 1, 2, 3, 5, 6] (.two 4 7 (.run 7 (.take 8 (.run 9 (.run 10 (trT [11, 12] (.run 13 .nil)))))) (.take 8 (.two 4 9 (.run 9 (.run 10 (trT [11, 12] (.run 13 .nil)))) (.run 4 (.run 10 (trT [11, 12] (.run 13 .nil)))))))) mixed (by kernel_rfl) (fun _ _ _ _ _ h => h) ?_
        simp only [trT, List.foldr_cons, List.foldr_nil, Tr.map, List.getElem?_cons_zero, List.getElem?_cons_succ]
        iterate 6 (refine tr_take (v := ?_) trivial rfl (fun w' hw => ?_) ?_; rotate_left; (focus (go_simp; (try with_reducible rfl); done)); try simp only [Act.put, List.setIfInBounds_toArray, List.set_cons_zero, List.set_cons_succ])
        refine tr_two ?_ ?_
        · refine now_run rfl (fun K hK => ?_)
          go_simp
          refine hK.out _ _ trivial ?_
          clear hK K
          refine tr_run rfl (fun K hK => ?_)
          go_simp
          refine (HN2.out _ (hR5.out.fresh ((Turned.refl (fun _ => False) w5).drew) (Nat.le_refl _)) (by have := hw5.out; exact this)).mono ?_
          rintro e w7 ⟨rfl, hR7, t7⟩
          have R7 := Lib.hid hR7
          have U7 := Lib.hid (U5.out.trans (W := (· = r)) (Turned.of_drewN (n := 1) t7) (fun _ e => e) (fun _ e => .inl e))
          have x9 : w7.cell? ⟨xb, 9, none⟩ = some (.slice Ad ds.length cd) := (hx.out.turned U7.out (fun e => by omega)).cell 9
          have O7 := Lib.hid (ho.out.turned U7.out (fun g e e2 => by have := hg.out g e; omega))
          clear t7 hR7
          refine hK.out _ _ trivial ?_
          clear hK K
          (refine tr_take (v := ?_) trivial rfl (fun w' hw => ?_) ?_; rotate_left; (focus (go_simp; (try with_reducible rfl); done)); try simp only [Act.put, List.setIfInBounds_toArray, List.set_cons_zero, List.set_cons_succ])
          have x9a := cell_turned ((Turned.refl (fun _ => False) w7).alloc (.cells #[.int .i64 px, .int .i64 py] 52)) x9 (fun e => e)
          refine tr_run rfl (fun K hK => ?_)
          go_simp
          refine hK.out _ _ trivial ?_
          clear hK K
          refine tr_run rfl (fun K hK => ?_)
          refine wp_appE dirtyT (.tmp 29) (.tmp 34) rfl (O7.out.turned ((Turned.refl (fun _ => False) w7).alloc _) (fun _ _ e => e)) ⟨w7.heap.size, 0, none⟩ 1 1 [.int .i64 px, .int .i64 py] rfl (news_new w7 52 [.int .i64 px, .int .i64 py]) (by simp [Value.oneCell']) (by omega) (by unfold maxLen; omega) (by omega) rfl rfl ?_
          intro A9 c9 w9 ho9 hor9
          refine hK.out _ _ trivial ?_
          clear hK K
          try simp only [Act.put, List.setIfInBounds_toArray, List.set_cons_zero, List.set_cons_succ]
          have hx9 := (hx.out.turned U7.out (fun e => by omega)).turned (((Turned.refl (fun i => wl.heap.size ≤ i) w7).alloc _).trans (W := fun i => wl.heap.size ≤ i) hor9.turned (fun _ e => e) (fun g e => .inl (hg.out g e))) (fun e => by omega)
          have xf := hx9.frozen 9
          have x9b : w9.cell? ⟨xb, 9, none⟩ = some (.slice Ad ds.length cd) := hx9.cell 9
          have hR := Lib.hid (hst.out w7 w9 A9 c9 _ R7.out U7.out ho9 hor9)
          clear hx9 ho9 hor9
          iterate 2 (refine tr_take (v := ?_) trivial rfl (fun w' hw => ?_) ?_; rotate_left; (focus (go_simp; (try with_reducible rfl); done)); try simp only [Act.put, List.setIfInBounds_toArray, List.set_cons_zero, List.set_cons_succ])
          refine tr_run rfl (fun K hK => ?_)
          go_simp
          refine hK.out _ _ trivial ?_
          clear hK K
          refine tr_nil ?_
          go_wp2_with fail
          exact ⟨hR.out, by simp [intOf]; omega⟩
        · refine now_run rfl (fun K hK => ?_)
          go_simp
          refine (HN2.out _ (hR5.out.fresh ((Turned.refl (fun _ => False) w5).drew) (Nat.le_refl _)) (by have := hw5.out; exact this)).mono ?_
          rintro e w7 ⟨rfl, hR7, t7⟩
          have R7 := Lib.hid hR7
          have U7 := Lib.hid (U5.out.trans (W := (· = r)) (Turned.of_drewN (n := 1) t7) (fun _ e => e) (fun _ e => .inl e))
          have x9 : w7.cell? ⟨xb, 9, none⟩ = some (.slice Ad ds.length cd) := (hx.out.turned U7.out (fun e => by omega)).cell 9
          have O7 := Lib.hid (ho.out.turned U7.out (fun g e e2 => by have := hg.out g e; omega))
          clear t7 hR7
          refine hK.out _ _ trivial ?_
          clear hK K
          (refine tr_take (v := ?_) trivial rfl (fun w' hw => ?_) ?_; rotate_left; (focus (go_simp; (try with_reducible rfl); done)); try simp only [Act.put, List.setIfInBounds_toArray, List.set_cons_zero, List.set_cons_succ])
          refine tr_two ?_ ?_
          · refine now_run rfl (fun K hK => ?_)
            go_simp
            refine hK.out _ _ trivial ?_
            clear hK K
            have x9a := cell_turned ((Turned.refl (fun _ => False) w7).alloc (.cells #[.int .i64 px, .int .i64 py] 52)) x9 (fun e => e)
            refine tr_run rfl (fun K hK => ?_)
            go_simp
            refine hK.out _ _ trivial ?_
            clear hK K
            refine tr_run rfl (fun K hK => ?_)
            refine wp_appE dirtyT (.tmp 29) (.tmp 34) rfl (O7.out.turned ((Turned.refl (fun _ => False) w7).alloc _) (fun _ _ e => e)) ⟨w7.heap.size, 0, none⟩ 1 1 [.int .i64 px, .int .i64 py] rfl (news_new w7 52 [.int .i64 px, .int .i64 py]) (by simp [Value.oneCell']) (by omega) (by unfold maxLen; omega) (by omega) rfl rfl ?_
            intro A9 c9 w9 ho9 hor9
            refine hK.out _ _ trivial ?_
            clear hK K
            try simp only [Act.put, List.setIfInBounds_toArray, List.set_cons_zero, List.set_cons_succ]
            have hx9 := (hx.out.turned U7.out (fun e => by omega)).turned (((Turned.refl (fun i => wl.heap.size ≤ i) w7).alloc _).trans (W := fun i => wl.heap.size ≤ i) hor9.turned (fun _ e => e) (fun g e => .inl (hg.out g e))) (fun e => by omega)
            have xf := hx9.frozen 9
            have x9b : w9.cell? ⟨xb, 9, none⟩ = some (.slice Ad ds.length cd) := hx9.cell 9
            have hR := Lib.hid (hst.out w7 w9 A9 c9 _ R7.out U7.out ho9 hor9)
            clear hx9 ho9 hor9
            iterate 2 (refine tr_take (v := ?_) trivial rfl (fun w' hw => ?_) ?_; rotate_left; (focus (go_simp; (try with_reducible rfl); done)); try simp only [Act.put, List.setIfInBounds_toArray, List.set_cons_zero, List.set_cons_succ])
            refine tr_run rfl (fun K hK => ?_)
            go_simp
            refine hK.out _ _ trivial ?_
            clear hK K
            refine tr_nil ?_
            go_wp2_with fail
            exact ⟨hR.out, by simp [intOf]; omega⟩
          · have x9a := cell_turned ((Turned.refl (fun _ => False) w7).alloc (.cells #[.int .i64 px, .int .i64 py] 52)) x9 (fun e => e)
            refine now_run rfl (fun K hK => ?_)
            go_simp
            refine hK.out _ _ trivial ?_
            clear hK K
            refine tr_run rfl (fun K hK => ?_)
            go_simp
            refine hK.out _ _ trivial ?_
            clear hK K
            refine tr_run rfl (fun K hK => ?_)
            refine wp_appE dirtyT (.tmp 29) (.tmp 34) rfl (O7.out.turned ((Turned.refl (fun _ => False) w7).alloc _) (fun _ _ e => e)) ⟨w7.heap.size, 0, none⟩ 1 1 [.int .i64 px, .int .i64 py] rfl (news_new w7 52 [.int .i64 px, .int .i64 py]) (by simp [Value.oneCell']) (by omega) (by unfold maxLen; omega) (by omega) rfl rfl ?_
            intro A9 c9 w9 ho9 hor9
            refine hK.out _ _ trivial ?_
            clear hK K
            try simp only [Act.put, List.setIfInBounds_toArray, List.set_cons_zero, List.set_cons_succ]
            have hx9 := (hx.out.turned U7.out (fun e => by omega)).turned (((Turned.refl (fun i => wl.heap.size ≤ i) w7).alloc _).trans (W := fun i => wl.heap.size ≤ i) hor9.turned (fun _ e => e) (fun g e => .inl (hg.out g e))) (fun e => by omega)
            have xf := hx9.frozen 9
            have x9b : w9.cell? ⟨xb, 9, none⟩ = some (.slice Ad ds.length cd) := hx9.cell 9
            have hR := Lib.hid (hst.out w7 w9 A9 c9 _ R7.out U7.out ho9 hor9)
            clear hx9 ho9 hor9
            iterate 2 (refine tr_take (v := ?_) trivial rfl (fun w' hw => ?_) ?_; rotate_left; (focus (go_simp; (try with_reducible rfl); done)); try simp only [Act.put, List.setIfInBounds_toArray, List.set_cons_zero, List.set_cons_succ])
            refine tr_run rfl (fun K hK => ?_)
            go_simp
            refine hK.out _ _ trivial ?_
            clear hK K
            refine tr_nil ?_
            go_wp2_with fail
            exact ⟨hR.out, by simp [intOf]; omega⟩
    · obtain rfl : k = 0 := by omega
      have hge : (n0 : Int) ≤ (ds.length : Int) := by omega
      have he2 := Lib.hid (show listS 2 n0 s0 = (ds, s1) by rw [he, listS_stop 2 0 s1 (.inl rfl), List.append_nil])
      have hR := Lib.hid hR
      clear he hs1
      have hld := Lib.hid (show listN 2 s = (ds, s1) by rw [hLN.out, he2.out])
      have hs1 : ∀ ys, s1 = some ys → ∀ y ∈ ys, isByte y := fun ys e y hy => hlb.out ys (by rw [hld.out]; exact e) y hy
      obtain ⟨n1, hn1a, hn1c⟩ := numS2_nat s1 hs1
      have hn1b := Lib.hid hn1a
      have hM := fnum_any r B 2 s1 wr hR.out hlw (by omega) hs1
      unfold NmPost at hM
      rw [hn1a] at hM
      have hM' := Lib.hid hM
      have hb2 := Lib.hid (numS_bytes (k := 2) hs1)
      have htd := Lib.hid ht.out
      have hod := Lib.hid ho.out
      have hgd := Lib.hid hg.out
      have hxm : xb < wr.heap.size := hx.out.lt
      have hBm := hlw
      clear hM hs1 hn1a he2 ht hg ho
      go_wp2_with fail
      refine hM'.out.mono ?_
      rintro e w2 ⟨rfl, hR2, t2⟩
      obtain ⟨s2, hs2⟩ : ∃ s2, s2 = (numS 2 s1).2 := ⟨_, rfl⟩
      rw [← hs2] at hR2 hb2
      have hs2 := Lib.hid hs2
      have hst1 := Lib.hid (show FlRel 54 r xb B 8 n1 s2 (xP (.slice Ad ds.length cd)) wr (.int .i64 0) w2 from ⟨[], n1, s2, none, 0, rfl, by simp, hx.out.turned t2 (fun e => by omega), OwnE.nil _ _ _, (fun g e => by cases e), hR2, hb2.out, by simp, t2.mono (fun _ e => .inl (.inl e))⟩)
      have hod := Lib.hid hod.out
      clear hM' hR2 t2 hb2 hx hR
      obtain ⟨wm, hwm⟩ : ∃ wm, wm = wr := ⟨_, rfl⟩
      subst hwm
      go_wp2_with fail
      go_loopw [7] (fun i wr => FlRel 54 r xb B 8 n1 s2 (xP (.slice Ad ds.length cd)) wm i wr) (fun i _ => n1 - (intOf i).toNat)
      case atStart => exact hst1.out
      case round =>
        obtain ⟨ps, k, s3, Ap, cp, rfl, hk, hx, ho, hg, hR, hs1, he, ht⟩ := hrel
        have hx := Lib.hid hx
        have ho := Lib.hid ho
        have hg := Lib.hid hg
        have ht := Lib.hid ht
        have hlw := Nat.le_trans hBm ht.out.size
        have hxl : ps.length ≤ 65535 := by omega
        clear hst1
        by_cases hk0 : 0 < k
        · have hki : (ps.length : Int) < (n1 : Int) := by omega
          cases s3 with
          | none =>
            have q1 : wr.cell? ⟨r, 1, none⟩ = some (.bool true) := by obtain ⟨_, _, _, _, hb, _⟩ := hR; exact hb.cell 1
            have he2 := Lib.hid (show listS 8 n1 s2 = (ps, none) by rw [he, listS_stop 8 k none (.inr rfl), List.append_nil])
            have hR := Lib.hid hR
            clear he hs1
            have hlp := Lib.hid (show listN 8 s1 = (ps, none) by unfold listN; rw [hn1b.out, Int.toNat_natCast]; rw [← hs2.out]; exact he2.out)
            go_wp2_with fail
            go_end0
            have e1 : (listN 2 s).1 = ds := by rw [hld.out]
            have e2 : listN 8 (listN 2 s).2 = (ps, none) := by rw [hld.out]; exact hlp.out
            refine ⟨Ad, cd, Ap, cp, rfl, ?_, ?_, ?_, hgd.out, fun g e => Nat.le_trans htd.out.size (hg.out g e), ?_, htd.out.trans (W := fun i => i = r ∨ i = xb) ht.out (fun _ e => e) (fun _ e => .inl e)⟩
            · rw [e1, e2]; exact hx.out
            · rw [e1]; exact hod.out.turned ht.out (fun g e e2 => by have := hgd.out g e; omega)
            · rw [e2]; exact ho.out
            · rw [e2]; exact hR.out
          | some zs =>
            obtain ⟨k', rfl⟩ : ∃ k', k = k' + 1 := ⟨k - 1, by omega⟩
            have q1 : wr.cell? ⟨r, 1, none⟩ = some (.bool false) := by obtain ⟨_, _, _, _, hb, _⟩ := hR; exact hb.cell 1
            have HN1 := Lib.hid (fnum_any r B 8 (some zs) wr hR hlw (by omega) hs1)
            have HN2 := Lib.hid (fun (w' : World) (h : IsF w' r B (numS 8 (some zs)).2) (hB : B ≤ w'.heap.size) => fnum_any r B 8 _ w' h hB (by omega) (numS_bytes (k := 8) hs1))
            have hst := Lib.hid (fun (w7 w9 : World) (A9 : Option Addr) (c9 : Nat) (o : Obj) (hR7 : IsF w7 r B (pairS 8 (some zs)).2) (t7 : Turned (· = r) wr w7) (ho9 : OwnE w9 54 2 A9 (ps.length + 1) c9 (pairC ps ++ [.int .i64 (pairS 8 (some zs)).1.1, .int .i64 (pairS 8 (some zs)).1.2])) (h9 : App2 (w7.alloc o) w9 Ap A9 cp c9) => FlRel.step (T := 54) (off := 10) (s0 := s2) (by decide) (xP_set _) hrB hBx hxm hk hx.out hg.out hs1 he ht.out hR7 t7 ho9 h9)
            have hpS : pairS 8 (some zs) = (((numS 8 (some zs)).1, (numS 8 (numS 8 (some zs)).2).1), (numS 8 (numS 8 (some zs)).2).2) := rfl
            rw [hpS] at hst
            clear hR hs1 he hpS
            unfold NmPost at HN1 HN2
            generalize (numS 8 (some zs)).1 = px at *
            generalize (numS 8 (numS 8 (some zs)).2).1 = py at *
            generalize (numS 8 (numS 8 (some zs)).2).2 = s9 at *
            generalize (numS 8 (some zs)).2 = s8 at *
            go_wp2_with fail
            refine HN1.out.mono ?_
            rintro e w5 ⟨rfl, hR5, t5⟩
            have hR5 := Lib.hid hR5
            have U5 := Lib.hid t5
            have hw5 := Lib.hid (Nat.le_trans hlw t5.size)
            have x5 : w5.cell? ⟨xb, 10, none⟩ = some (.slice Ap ps.length cp) := (hx.out.turned t5 (fun e => by omega)).cell 10
            have x5d : w5.drew.cell? ⟨xb, 10, none⟩ = some (.slice Ap ps.length cp) := x5
            clear t5 HN1
            go_wp2_with fail
            refine wp_region_tr (fun _ => True) (trT [0, 1, 2, 3, 5, 6] (.two 4 7 (.run 7 (.take 8 (.run 9 (.run 10 (trT [11, 12] (.run 13 .nil)))))) (.take 8 (.two 4 9 (.run 9 (.run 10 (trT [11, 12] (.run 13 .nil)))) (.run 4 (.run 10 (trT [11, 12] (.run 13 .nil)))))))) mixed (by kernel_rfl) (fun _ _ _ _ _ h => h) ?_
            simp only [trT, List.foldr_cons, List.foldr_nil, Tr.map, List.getElem?_cons_zero, List.getElem?_cons_succ]
            iterate 6 (refine tr_take (v := ?_) trivial rfl (fun w' hw => ?_) ?_; rotate_left; (focus (go_simp; (try with_reducible rfl); done)); try simp only [Act.put, List.setIfInBounds_toArray, List.set_cons_zero, List.set_cons_succ])
            refine tr_two ?_ ?_
            · refine now_run rfl (fun K hK => ?_)
              go_simp
              refine hK.out _ _ trivial ?_
              clear hK K
              refine tr_run rfl (fun K hK => ?_)
              go_simp
              refine (HN2.out _ (hR5.out.fresh ((Turned.refl (fun _ => False) w5).drew) (Nat.le_refl _)) (by have := hw5.out; exact this)).mono ?_
              rintro e w7 ⟨rfl, hR7, t7⟩
              have R7 := Lib.hid hR7
              have U7 := Lib.hid (U5.out.trans (W := (· = r)) (Turned.of_drewN (n := 1) t7) (fun _ e => e) (fun _ e => .inl e))
              have x9 : w7.cell? ⟨xb, 10, none⟩ = some (.slice Ap ps.length cp) := (hx.out.turned U7.out (fun e => by omega)).cell 10
              have O7 := Lib.hid (ho.out.turned U7.out (fun g e e2 => by have := hg.out g e; omega))
              clear t7 hR7
              refine hK.out _ _ trivial ?_
              clear hK K
              (refine tr_take (v := ?_) trivial rfl (fun w' hw => ?_) ?_; rotate_left; (focus (go_simp; (try with_reducible rfl); done)); try simp only [Act.put, List.setIfInBounds_toArray, List.set_cons_zero, List.set_cons_succ])
              have x9a := cell_turned ((Turned.refl (fun _ => False) w7).alloc (.cells #[.int .i64 px, .int .i64 py] 54)) x9 (fun e => e)
              refine tr_run rfl (fun K hK => ?_)
              go_simp
              refine hK.out _ _ trivial ?_
              clear hK K
              refine tr_run rfl (fun K hK => ?_)
              refine wp_appE openT (.tmp 58) (.tmp 63) rfl (O7.out.turned ((Turned.refl (fun _ => False) w7).alloc _) (fun _ _ e => e)) ⟨w7.heap.size, 0, none⟩ 1 1 [.int .i64 px, .int .i64 py] rfl (news_new w7 54 [.int .i64 px, .int .i64 py]) (by simp [Value.oneCell']) (by omega) (by unfold maxLen; omega) (by omega) rfl rfl ?_
              intro A9 c9 w9 ho9 hor9
              refine hK.out _ _ trivial ?_
              clear hK K
              try simp only [Act.put, List.setIfInBounds_toArray, List.set_cons_zero, List.set_cons_succ]
              have hx9 := (hx.out.turned U7.out (fun e => by omega)).turned (((Turned.refl (fun i => wm.heap.size ≤ i) w7).alloc _).trans (W := fun i => wm.heap.size ≤ i) hor9.turned (fun _ e => e) (fun g e => .inl (hg.out g e))) (fun e => by omega)
              have xf := hx9.frozen 10
              have x9b : w9.cell? ⟨xb, 10, none⟩ = some (.slice Ap ps.length cp) := hx9.cell 10
              have hR := Lib.hid (hst.out w7 w9 A9 c9 _ R7.out U7.out ho9 hor9)
              clear hx9 ho9 hor9
              iterate 2 (refine tr_take (v := ?_) trivial rfl (fun w' hw => ?_) ?_; rotate_left; (focus (go_simp; (try with_reducible rfl); done)); try simp only [Act.put, List.setIfInBounds_toArray, List.set_cons_zero, List.set_cons_succ])
              refine tr_run rfl (fun K hK => ?_)
              go_simp
              refine hK.out _ _ trivial ?_
              clear hK K
              refine tr_nil ?_
              go_wp2_with fail
              exact ⟨hR.out, by simp [intOf]; omega⟩
            · refine now_run rfl (fun K hK => ?_)
              go_simp
              refine (HN2.out _ (hR5.out.fresh ((Turned.refl (fun _ => False) w5).drew) (Nat.le_refl _)) (by have := hw5.out; exact this)).mono ?_
              rintro e w7 ⟨rfl, hR7, t7⟩
              have R7 := Lib.hid hR7
              have U7 := Lib.hid (U5.out.trans (W := (· = r)) (Turned.of_drewN (n := 1) t7) (fun _ e => e) (fun _ e => .inl e))
              have x9 : w7.cell? ⟨xb, 10, none⟩ = some (.slice Ap ps.length cp) := (hx.out.turned U7.out (fun e => by omega)).cell 10
              have O7 := Lib.hid (ho.out.turned U7.out (fun g e e2 => by have := hg.out g e; omega))
              clear t7 hR7
              refine hK.out _ _ trivial ?_
              clear hK K
              (refine tr_take (v := ?_) trivial rfl (fun w' hw => ?_) ?_; rotate_left; (focus (go_simp; (try with_reducible rfl); done)); try simp only [Act.put, List.setIfInBounds_toArray, List.set_cons_zero, List.set_cons_succ])
              refine tr_two ?_ ?_
              · refine now_run rfl (fun K hK => ?_)
                go_simp
                refine hK.out _ _ trivial ?_
                clear hK K
                have x9a := cell_turned ((Turned.refl (fun _ => False) w7).alloc (.cells #[.int .i64 px, .int .i64 py] 54)) x9 (fun e => e)
                refine tr_run rfl (fun K hK => ?_)
                go_simp
                refine hK.out _ _ trivial ?_
                clear hK K
                refine tr_run rfl (fun K hK => ?_)
                refine wp_appE openT (.tmp 58) (.tmp 63) rfl (O7.out.turned ((Turned.refl (fun _ => False) w7).alloc _) (fun _ _ e => e)) ⟨w7.heap.size, 0, none⟩ 1 1 [.int .i64 px, .int .i64 py] rfl (news_new w7 54 [.int .i64 px, .int .i64 py]) (by simp [Value.oneCell']) (by omega) (by unfold maxLen; omega) (by omega) rfl rfl ?_
                intro A9 c9 w9 ho9 hor9
                refine hK.out _ _ trivial ?_
                clear hK K
                try simp only [Act.put, List.setIfInBounds_toArray, List.set_cons_zero, List.set_cons_succ]
                have hx9 := (hx.out.turned U7.out (fun e => by omega)).turned (((Turned.refl (fun i => wm.heap.size ≤ i) w7).alloc _).trans (W := fun i => wm.heap.size ≤ i) hor9.turned (fun _ e => e) (fun g e => .inl (hg.out g e))) (fun e => by omega)
                have xf := hx9.frozen 10
                have x9b : w9.cell? ⟨xb, 10, none⟩ = some (.slice Ap ps.length cp) := hx9.cell 10
                have hR := Lib.hid (hst.out w7 w9 A9 c9 _ R7.out U7.out ho9 hor9)
                clear hx9 ho9 hor9
                iterate 2 (refine tr_take (v := ?_) trivial rfl (fun w' hw => ?_) ?_; rotate_left; (focus (go_simp; (try with_reducible rfl); done)); try simp only [Act.put, List.setIfInBounds_toArray, List.set_cons_zero, List.set_cons_succ])
                refine tr_run rfl (fun K hK => ?_)
                go_simp
                refine hK.out _ _ trivial ?_
                clear hK K
                refine tr_nil ?_
                go_wp2_with fail
                exact ⟨hR.out, by simp [intOf]; omega⟩
              · have x9a := cell_turned ((Turned.refl (fun _ => False) w7).alloc (.cells #[.int .i64 px, .int .i64 py] 54)) x9 (fun e => e)
                refine now_run rfl (fun K hK => ?_)
                go_simp
                refine hK.out _ _ trivial ?_
                clear hK K
                refine tr_run rfl (fun K hK => ?_)
                go_simp
                refine hK.out _ _ trivial ?_
                clear hK K
                refine tr_run rfl (fun K hK => ?_)
                refine wp_appE openT (.tmp 58) (.tmp 63) rfl (O7.out.turned ((Turned.refl (fun _ => False) w7).alloc _) (fun _ _ e => e)) ⟨w7.heap.size, 0, none⟩ 1 1 [.int .i64 px, .int .i64 py] rfl (news_new w7 54 [.int .i64 px, .int .i64 py]) (by simp [Value.oneCell']) (by omega) (by unfold maxLen; omega) (by omega) rfl rfl ?_
                intro A9 c9 w9 ho9 hor9
                refine hK.out _ _ trivial ?_
                clear hK K
                try simp only [Act.put, List.setIfInBounds_toArray, List.set_cons_zero, List.set_cons_succ]
                have hx9 := (hx.out.turned U7.out (fun e => by omega)).turned (((Turned.refl (fun i => wm.heap.size ≤ i) w7).alloc _).trans (W := fun i => wm.heap.size ≤ i) hor9.turned (fun _ e => e) (fun g e => .inl (hg.out g e))) (fun e => by omega)
                have xf := hx9.frozen 10
                have x9b : w9.cell? ⟨xb, 10, none⟩ = some (.slice Ap ps.length cp) := hx9.cell 10
                have hR := Lib.hid (hst.out w7 w9 A9 c9 _ R7.out U7.out ho9 hor9)
                clear hx9 ho9 hor9
                iterate 2 (refine tr_take (v := ?_) trivial rfl (fun w' hw => ?_) ?_; rotate_left; (focus (go_simp; (try with_reducible rfl); done)); try simp only [Act.put, List.setIfInBounds_toArray, List.set_cons_zero, List.set_cons_succ])
                refine tr_run rfl (fun K hK => ?_)
                go_simp
                refine hK.out _ _ trivial ?_
                clear hK K
                refine tr_nil ?_
                go_wp2_with fail
                exact ⟨hR.out, by simp [intOf]; omega⟩
        · obtain rfl : k = 0 := by omega
          have hge : (n1 : Int) ≤ (ps.length : Int) := by omega
          have he2 := Lib.hid (show listS 8 n1 s2 = (ps, s3) by rw [he, listS_stop 8 0 s3 (.inl rfl), List.append_nil])
          have hR := Lib.hid hR
          clear he hs1
          have hlp := Lib.hid (show listN 8 s1 = (ps, s3) by unfold listN; rw [hn1b.out, Int.toNat_natCast]; rw [← hs2.out]; exact he2.out)
          go_wp2_with fail
          go_end0
          have e1 : (listN 2 s).1 = ds := by rw [hld.out]
          have e2 : listN 8 (listN 2 s).2 = (ps, s3) := by rw [hld.out]; exact hlp.out
          refine ⟨Ad, cd, Ap, cp, rfl, ?_, ?_, ?_, hgd.out, fun g e => Nat.le_trans htd.out.size (hg.out g e), ?_, htd.out.trans (W := fun i => i = r ∨ i = xb) ht.out (fun _ e => e) (fun _ e => .inl e)⟩
          · rw [e1, e2]; exact hx.out
          · rw [e1]; exact hod.out.turned ht.out (fun g e e2 => by have := hgd.out g e; omega)
          · rw [e2]; exact ho.out
          · rw [e2]; exact hR.out


end Go.Proofs.YtohajofkflibjaaGreatDoor

