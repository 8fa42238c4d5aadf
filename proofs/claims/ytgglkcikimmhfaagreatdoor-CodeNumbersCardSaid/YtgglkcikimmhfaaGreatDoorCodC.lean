/-
  code.Put and the document's: a code's bytes. No condition but a text's length.
-/
import Derived.Test.YtgglkcikimmhfaaGreatDoorCodB
import Derived.Test.YtgglkcikimmhfaaGreatDoorOwn
import Derived.Lib.ConvBytes
import Derived.Lib.AtoiErrMem
namespace Go.Proofs.YtgglkcikimmhfaaGreatDoor
open Go.RowKit Go.Maps
set_option linter.unusedVariables false

/-- New bytes, or nil where there are none. -/
def PutPost (zs : List Int) (w : World) (e : Ending) (w' : World) : Prop := ∃ A c, e = .returned (.slice A zs.length c) ∧ OwnV w' A zs.length c zs ∧ (∀ g, A = some ⟨g, 0, none⟩ → w.heap.size ≤ g) ∧ Turned (fun _ => False) w w'
theorem OwnV.one (w : World) (x : Int) : OwnV (w.alloc (.cells #[.int .u8 x] 5)) (some ⟨w.heap.size, 0, none⟩) 1 1 [x] :=
  OwnV.of_row ⟨rfl, Nat.le_refl _, by unfold maxLen; omega, _, Blk.new _ _ _, rfl, rfl⟩
theorem u8s_cons (x : Int) (ys : List Int) : u8s (x :: ys) = .int .u8 x :: u8s ys := rfl
set_option maxRecDepth 100000 in
theorem crow_some (first : Int) (ad : Addr) (m cc : Nat) (ys : List Int) (w : World) (hl : ys.length = m) (hnews : ∀ j u, (u8s ys)[j]? = some u → w.cell? (ad.add j) = some u) (hm : 0 < m) (hm2 : m ≤ 1000000) :
    Calls Tryz.prog 31 #[.int .u8 first, .slice (some ad) m cc] w (PutPost (first :: ys) w) := by
  have ha : ∀ (t : World), Turned (fun _ => False) w t → ∀ j u, (u8s ys)[j]? = some u → t.cell? (ad.add j) = some u := fun t ht j u hu => cell_turned ht (hnews j u hu) (fun e => e)
  have ha' := Lib.hid ha
  have hl' := Lib.hid hl
  clear hnews ha hl
  go_enter Tryz.func31, Tryz.ntmps31
  go_wp2_with (at_builtin; refine wpList_app2 bytT rfl (.tmp 6) (.tmp 7) rfl (OwnV.one w first) ad m cc ys hl'.out (ha'.out _ ((Turned.refl _ w).alloc _)) hm (by omega) rfl rfl ?_; intro A' c' w4 ho4 hor4)
  go_ret
  have hlen : (first :: ys).length = 1 + m := by rw [List.length_cons, hl'.out]; omega
  refine ⟨A', c', by rw [hlen]; rfl, by rw [hlen]; exact ho4, fun g e => ?_, ?_⟩
  · rcases hor4 with ⟨e2, _⟩ | ⟨e2, _⟩
    · rw [e2] at e; injection e with e; injection e with e; omega
    · rw [e2] at e; injection e with e; injection e with e; simp at e; omega
  · rcases hor4 with ⟨_, _, _, ht⟩ | ⟨_, ht⟩
    · exact ((Turned.refl (fun _ => False) w).alloc _).trans ht (fun _ e => e) (fun g e => .inr (by injection e with e; injection e with e; omega))
    · exact ((Turned.refl (fun _ => False) w).alloc _).trans ht (fun _ e => e) (fun _ e => e.elim)
set_option maxRecDepth 100000 in
theorem crow_none (first : Int) (ad : Addr) (cc : Nat) (w : World) :
    Calls Tryz.prog 31 #[.int .u8 first, .slice (some ad) 0 cc] w (PutPost [first] w) := by
  obtain ⟨i0, hi, hz0, hz1, hz2⟩ := info_parts u8info
  have hI := Lib.hid (And.intro hi (And.intro hz0 (And.intro hz1 hz2)))
  clear hi hz0 hz1 hz2
  go_enter Tryz.func31, Tryz.ntmps31
  go_wp2_with (at_builtin; refine wpList_append_fits_any _ rfl (.tmp 6) (.tmp 7) 22 rfl 0 5 i0 1 Tryz.underlying22 hI.out.1 hI.out.2.2.1 w.heap.size 1 1 (u8s [first]) rfl (OwnV.one w first) (some ad) 0 cc [] rfl rfl (fun e => by cases e) (fun ad e j u hu => by simp at hu) (by simp) (by omega) ?_; intro w4 hown4 hg4)
  go_ret
  refine ⟨some ⟨w.heap.size, 0, none⟩, 1, rfl, ?_, fun g e => by injection e with e; injection e with e; omega, ((Turned.refl (fun _ => False) w).alloc _).grown hg4 (fun k e => by injection e with e; exact .inr (by omega))⟩
  simp only [List.append_nil, Nat.add_zero] at hown4
  exact hown4
theorem ba_empty {s : ByteArray} (h : s.size = 0) : s = ⟨#[]⟩ := by
  have : s.data = #[] := Array.eq_empty_of_size_eq_zero h
  cases s
  simp at this
  rw [this]
theorem ba_ne {s : ByteArray} (h : 0 < s.size) : ¬ s.toList = [] ∧ s.toList.isEmpty = false := by
  rw [ByteArray.toList_eq]
  have := ba_size s
  cases hd : s.data.toList with
  | nil => rw [hd] at this; simp at this; omega
  | cons a r => simp
theorem news_str (w : World) (s : ByteArray) : ∀ j u, (u8s (ints s.data.toList))[j]? = some u → (Lib.bytesWorld w 5 s).cell? ((⟨w.heap.size, 0, none⟩ : Addr).add j) = some u := by
  intro j u hu
  have hj : j < s.size := by
    have := (List.getElem?_eq_some_iff.1 hu).1
    rw [u8s_length, ints_length, ba_size] at this
    exact this
  rw [Addr.add_mid, Nat.zero_add, Lib.bytesWorld_cell w _ s j hj, ← hu]
  simp only [u8s, ints, List.getElem?_map, List.getD_eq_getElem?_getD]
  rw [List.getElem?_eq_getElem (by rw [ba_size]; exact hj)]
  rfl
theorem turned_bytes (w : World) (s : ByteArray) : Turned (fun _ => False) w (Lib.bytesWorld w 5 s) := Turned.of_below (Lib.bytesWorld_below w _ s) _
theorem PutPost.from_ {zs : List Int} {w w1 : World} {e : Ending} {w' : World} (h : PutPost zs w1 e w') (ht : Turned (fun _ => False) w w1) : PutPost zs w e w' := by
  obtain ⟨A, c, h1, h2, h3, h4⟩ := h
  exact ⟨A, c, h1, h2, fun g e => Nat.le_trans ht.size (h3 g e), ht.trans h4 (fun _ e => e) (fun _ e => e.elim)⟩
set_option maxRecDepth 100000 in
theorem put_any (s : ByteArray) (w : World) (hs : s.size ≤ 9223372036854775807) : Calls Tryz.prog 15 #[.string s] w (PutPost (putL s.data.toList) w) := by
  have kc := fun (w : World) => Lib.run_convert_string_bytes (P := Tryz.prog) w 9 22 5 s Tryz.underlying9 Tryz.underlying22 Tryz.underlying5
  by_cases h0 : s.size = 0
  · obtain rfl := ba_empty h0
    clear h0 hs
    go_enter Tryz.func15, Tryz.ntmps15
    go_wp2_with fail
    refine (crow_none 0 _ _ _).mono ?_
    intro e w1 hp
    obtain ⟨A, c, rfl, h2, h3, h4⟩ := hp.from_ (turned_bytes w _)
    go_wp2_with fail
    go_ret
    exact ⟨A, c, rfl, h2, h3, h4⟩
  · obtain ⟨hn1, hn2⟩ := ba_ne (s := s) (by omega)
    cases hc : codeL s.data.toList with
    | false =>
      have e : putL s.data.toList = [] := by
        unfold putL putOk
        rw [hc, ba_size, decide_eq_false h0]
        rfl
      have hr := right_any s w hs
      rw [hc] at hr
      have hr' := Lib.hid hr
      have e' := Lib.hid e
      clear hc hr e kc
      go_enter Tryz.func15, Tryz.ntmps15
      go_wp2_with fail
      refine hr'.out.mono ?_
      rintro e w1 ⟨rfl, ht⟩
      go_wp2_with fail
      go_ret
      rw [e'.out]
      exact ⟨none, 0, rfl, OwnV.nil _, (fun g e => by cases e), ht⟩
    | true =>
      have hl := (codeL_len hc).2.1
      rw [ba_size] at hl
      have e : putL s.data.toList = (s.size : Int) :: ints s.data.toList := by
        unfold putL putOk
        rw [hc, Bool.or_true, if_pos rfl, ba_size]
      have hr := right_any s w hs
      rw [hc] at hr
      have hr' := Lib.hid hr
      have e' := Lib.hid e
      clear hc hr e
      have hli : (s.size : Int) ≤ 12 := by omega
      go_enter Tryz.func15, Tryz.ntmps15
      go_wp2_with fail
      refine hr'.out.mono ?_
      rintro e w1 ⟨rfl, ht⟩
      have ht' := Lib.hid ht
      clear ht
      go_wp2_with fail
      refine (crow_some (s.size : Int) ⟨w1.heap.size, 0, none⟩ s.size _ (ints s.data.toList) _ (by rw [ints_length, ba_size]) (news_str w1 s) (by omega) (by omega)).mono ?_
      intro e w2 hp
      have hp2 := hp.from_ (ht'.out.trans (W := fun _ => False) (turned_bytes w1 s) (fun _ e => e) (fun _ e => e.elim))
      rw [← e'.out] at hp2
      obtain ⟨A, c, rfl, h2, h3, h4⟩ := hp2
      go_wp2_with fail
      go_ret
      exact ⟨A, c, rfl, h2, h3, h4⟩

theorem strCells_ints (s : ByteArray) : Lib.strCells s = u8s (ints s.data.toList) := by
  unfold Lib.strCells u8s ints
  simp
theorem wpList_app_str {P : Program} {w : World} {S U T : TypeId} {ops : Array Oper} {rest : List Oper} {o : Oper} {a : Act} {Q : Exit → Act → World → Prop} (B : BytT P S U) (hT : P.underlying T = some .string) (hgd : o.guard = none) (s x : Operand)
    (ho : o.op = .call { callee := .builtin .append, args := #[s, x], argTypes := #[S, T] }) {base n : Nat} {v : Value} {xs : List Int} (hown : w.ownsRow base U 1 v n (u8s xs)) (str : ByteArray) (hm : 0 < n) (hb : n + str.size ≤ 140737488355328) (hbase : base ≤ w.heap.size)
    (hs : a.eval s = v) (hx : a.eval x = .string str)
    (h : ∀ g cap w', RowB w' U g (n + str.size) cap (xs ++ ints str.data.toList) → base ≤ g → w.grownBy w' v.ownBlock → wpList P ops Q rest (a.put o.dst (.slice (some ⟨g, 0, none⟩) (n + str.size) cap)) w') : wpList P ops Q (o :: rest) a w := by
  obtain ⟨i, hi, hz0, hz1, hz2⟩ := info_parts B.info
  obtain ⟨v', w', hrun, h2, h3, _⟩ := Lib.run_append_own_string (P := P) w base S T o.type U i B.und hT hi hz0 hz1 hz2 v n (u8s xs) hown str (by unfold maxLen; omega) hb hbase
  obtain ⟨g, cap, rfl, hge, _⟩ := h2.form (by omega)
  refine Lib.wpList_append_run w hgd s x S T ho _ _ hs hx _ _ hrun (h g cap w' (RowB.of_own (base := base) ?_) hge h3)
  have : u8s (xs ++ ints str.data.toList) = u8s xs ++ Lib.strCells str := by rw [strCells_ints]; simp [u8s]
  rw [this]; exact h2
theorem rput_close {s : ByteArray} {w w1 w2 : World} {g cap : Nat} {first : Int} (ht : Turned (fun _ => False) w w1) (hr : RowB w2 5 g (1 + s.size) cap ([first] ++ ints s.data.toList)) (hg : w1.heap.size ≤ g) (hgr : (w1.alloc (.cells #[.int .u8 first] 5)).grownBy w2 (some w1.heap.size)) :
    PutPost (first :: ints s.data.toList) w (.returned (.slice (some ⟨g, 0, none⟩) (1 + s.size) cap)) w2 := by
  have hl : (first :: ints s.data.toList).length = 1 + s.size := by rw [List.length_cons, ints_length, ba_size]; omega
  refine ⟨some ⟨g, 0, none⟩, cap, by rw [hl], by rw [hl]; exact OwnV.of_row hr, fun g' e => ?_, ((ht.alloc _).grown hgr (fun k e => by injection e with e; have := ht.size; exact .inr (by omega)))⟩
  injection e with e
  injection e with e
  have := ht.size
  omega
set_option maxRecDepth 100000 in
theorem rput_any (s : ByteArray) (w : World) (hs : s.size ≤ 9223372036854775807) : Calls Tryz.prog 16 #[.string s] w (PutPost (putL s.data.toList) w) := by
  by_cases h0 : s.size = 0
  · obtain rfl := ba_empty h0
    clear h0 hs
    go_enter Tryz.func16, Tryz.ntmps16
    go_wp2_with (at_builtin; refine wpList_app_str bytT Tryz.underlying9 rfl (.tmp 13) (.tmp 14) rfl (base := w.heap.size) (n := 1) (xs := [0]) ((OwnV.one w 0).row.own (Nat.le_refl _)) ⟨#[]⟩ (by omega) (by decide) (by simp) rfl rfl ?_; intro g cap w2 hr2 hg2 hgr2)
    go_ret
    exact rput_close (s := ⟨#[]⟩) (Turned.refl _ w) hr2 hg2 hgr2
  · obtain ⟨hn1, hn2⟩ := ba_ne (s := s) (by omega)
    cases hc : codeL s.data.toList with
    | false =>
      have e : putL s.data.toList = [] := by
        unfold putL putOk
        rw [hc, ba_size, decide_eq_false h0]
        rfl
      have hr := rright_any s w hs
      rw [hc] at hr
      have hr' := Lib.hid hr
      have e' := Lib.hid e
      clear hc hr e
      go_enter Tryz.func16, Tryz.ntmps16
      go_wp2_with fail
      refine hr'.out.mono ?_
      rintro e w1 ⟨rfl, rfl⟩
      go_wp2_with fail
      go_ret
      rw [e'.out]
      exact ⟨none, 0, rfl, OwnV.nil _, (fun g e => by cases e), Turned.refl _ _⟩
    | true =>
      have hl := (codeL_len hc).2.1
      rw [ba_size] at hl
      have e : putL s.data.toList = (s.size : Int) :: ints s.data.toList := by
        unfold putL putOk
        rw [hc, Bool.or_true, if_pos rfl, ba_size]
      have hr := rright_any s w hs
      rw [hc] at hr
      have hr' := Lib.hid hr
      have e' := Lib.hid e
      clear hc hr e
      have hli : (s.size : Int) ≤ 12 := by omega
      go_enter Tryz.func16, Tryz.ntmps16
      go_wp2_with fail
      refine hr'.out.mono ?_
      rintro e w1 ⟨rfl, rfl⟩
      go_wp2_with (at_builtin; refine wpList_app_str bytT Tryz.underlying9 rfl (.tmp 13) (.tmp 14) rfl (base := w.heap.size) (n := 1) (xs := [(s.size : Int)]) ((OwnV.one w (s.size : Int)).row.own (Nat.le_refl _)) s (by omega) (by omega) (by simp) rfl rfl ?_; intro g cap w2 hr2 hg2 hgr2)
      go_ret
      rw [e'.out]
      exact rput_close (Turned.refl _ w) hr2 hg2 hgr2
end Go.Proofs.YtgglkcikimmhfaaGreatDoor
