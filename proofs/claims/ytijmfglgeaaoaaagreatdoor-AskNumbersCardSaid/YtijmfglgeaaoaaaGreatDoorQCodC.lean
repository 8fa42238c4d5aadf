/-
  ytijmfglgeaaoaaagreatdoor: laws and walks on the road to AskNumbers, joined: Own CodC. Conditions stand at each theorem.
-/
import Derived.Test.YtijmfglgeaaoaaaGreatDoorQKitB
import Derived.Test.YtijmfglgeaaoaaaGreatDoorQAwk
import Derived.Lib.AppendZerosOnto
import Derived.Lib.AppendStr
import Derived.Test.YtijmfglgeaaoaaaGreatDoorQCodB
import Derived.Lib.ConvBytes
import Derived.Lib.AtoiErrMem
namespace Go.Proofs.YtijmfglgeaaoaaaGreatDoor
open Go.RowKit Go.Maps

def OwnV (w : World) (A : Option Addr) (n c : Nat) (zs : List Int) : Prop := w.ownsRow 0 5 1 (.slice A n c) n (u8s zs)
section
variable {w w' : World} {A : Option Addr} {n c : Nat} {zs : List Int}
theorem OwnV.nil (w : World) : OwnV w none 0 0 [] := World.ownsRow_nil _ _ _ _
theorem OwnV.of_row {g : Nat} (h : RowB w 5 g n c zs) : OwnV w (some ⟨g, 0, none⟩) n c zs := h.own (Nat.zero_le _)
theorem OwnV.row_or (h : OwnV w A n c zs) : (A = none ∧ n = 0 ∧ c = 0 ∧ zs = []) ∨ ∃ g, A = some ⟨g, 0, none⟩ ∧ RowB w 5 g n c zs := by
  rcases h.2 with ⟨h1, h2⟩ | ⟨g, cap, cur, hv, _⟩
  · left
    injection h1 with h3 h4 h5
    refine ⟨h3, h2, h5, ?_⟩
    have := h.1
    rw [u8s_length, h2] at this
    exact List.length_eq_zero_iff.1 (by omega)
  · right
    injection hv with h3 h4 h5
    subst h3 h5
    exact ⟨g, rfl, RowB.of_own (base := 0) h⟩
theorem OwnV.len (h : OwnV w A n c zs) : zs.length = n := by
  have := h.1
  rw [u8s_length] at this
  omega
theorem OwnV.row {g : Nat} (h : OwnV w (some ⟨g, 0, none⟩) n c zs) : RowB w 5 g n c zs := RowB.of_own (base := 0) h
theorem OwnV.some_ (h : OwnV w A n c zs) (hn : 0 < n) : ∃ g, A = some ⟨g, 0, none⟩ ∧ RowB w 5 g n c zs := by
  rcases h.row_or with ⟨_, h1, _⟩ | h1
  · omega
  · exact h1
theorem OwnV.turned {W : Nat → Prop} (h : OwnV w A n c zs) (ht : Turned W w w') (hW : ∀ g, A = some ⟨g, 0, none⟩ → ¬ W g) : OwnV w' A n c zs := by
  rcases h.row_or with ⟨rfl, rfl, rfl, rfl⟩ | ⟨g, rfl, hr⟩
  · exact OwnV.nil _
  · exact OwnV.of_row (hr.turned ht (hW g rfl))
theorem OwnV.set {g : Nat} (h : OwnV w (some ⟨g, 0, none⟩) n c zs) (i : Nat) (z : Int) : OwnV (w.setCell ⟨g, i, none⟩ (.int .u8 z)) (some ⟨g, 0, none⟩) n c (zs.set i z) := OwnV.of_row (h.row.set i z)
theorem OwnV.far {g : Nat} (h : OwnV w A n c zs) (hA : A ≠ some ⟨g, 0, none⟩) (i : Nat) (u : Value) : OwnV (w.setCell ⟨g, i, none⟩ u) A n c zs :=
  h.turned ((Turned.refl (· = g) w).setCell (.inl rfl) u) (fun g' e e' => hA (by rw [e, e']))
theorem OwnV.take {m : Nat} (h : OwnV w A n c zs) (hm : m ≤ n) (hs : A ≠ none) : OwnV w A m c (zs.take m) := by
  rcases h.row_or with ⟨rfl, _⟩ | ⟨g, rfl, hr⟩
  · exact absurd rfl hs
  · exact OwnV.of_row (hr.cut hm)
theorem OwnV.lt {g : Nat} (h : OwnV w A n c zs) (hA : A = some ⟨g, 0, none⟩) : g < w.heap.size := by subst hA; exact h.row.lt
theorem OwnV.max (h : OwnV w A n c zs) : n ≤ c ∧ c ≤ maxLen := by
  rcases h.row_or with ⟨_, rfl, rfl, _⟩ | ⟨g, rfl, hr⟩
  · exact ⟨Nat.le_refl _, Nat.zero_le _⟩
  · exact ⟨hr.le, hr.max⟩
theorem OwnV.blk {g L : Nat} {T : TypeId} {cs : Array Value} (h : OwnV w A n c zs) (hL : Blk w L T cs) (hT : T ≠ 5) (hA : A = some ⟨g, 0, none⟩) : g ≠ L := by
  subst hA
  obtain ⟨cs', hb, _⟩ := h.row.row
  rintro rfl
  exact hT (Blk.inj hL hb).2
end

section
variable {P : Program} {w : World} {S : TypeId} {A : Option Addr} {n c : Nat} {zs : List Int}
/-- append, by whether there was room. -/
theorem run_app2 (B : BytT P S 5) {ty : TypeId} (h : OwnV w A n c zs) (ad : Addr) (m cc : Nat) (ys : List Int) (hl : ys.length = m) (hnews : ∀ j u, (u8s ys)[j]? = some u → w.cell? (ad.add j) = some u) (hm : 0 < m) (hb : n + m ≤ 140737488355328) :
    ∃ A' c' w', (Builtin.append_ #[S, S] ty #[.slice A n c, .slice (some ad) m cc]).run P w = .ok (.slice A' (n + m) c') w' ∧ OwnV w' A' (n + m) c' (zs ++ ys) ∧
      ((A' = A ∧ c' = c ∧ A ≠ none ∧ Turned (fun g => A = some ⟨g, 0, none⟩) w w') ∨ (A' = some ⟨w.heap.size, 0, none⟩ ∧ Turned (fun _ => False) w w')) := by
  obtain ⟨i, hi, hz0, hz1, hz2⟩ := info_parts B.info
  have hu : u8s (zs ++ ys) = u8s zs ++ u8s ys := by simp [u8s]
  rcases h.row_or with ⟨rfl, rfl, rfl, rfl⟩ | ⟨g, rfl, hr⟩
  · obtain ⟨g, cap, w', hrun, h2, h3, h4, h5⟩ := run_append_lies (P := P) w S ty 0 5 i (.int .u8 0) 1 1 B.und hi hz0 hz1 hz2 rfl (by omega) _ 0 [] (World.ownsRow_nil w 0 5 1) ad m cc (u8s ys) (by rw [u8s_length, hl, Nat.mul_one]) hnews (u8s_one ys) hm (by unfold maxLen; omega) (by omega) (Nat.zero_le _) _ rfl
    rcases h4 with h4 | h4
    · cases h4
    · subst h4
      exact ⟨_, cap, w', hrun, by unfold OwnV; rw [hu]; exact h2, .inr ⟨rfl, (Turned.refl _ w).grown h3 (fun k e => by cases e)⟩⟩
  · by_cases hroom : n + m ≤ c
    · obtain ⟨w', hrun, h2, h3⟩ := run_append_fits (P := P) w 0 S ty 5 i 1 B.und hi hz1 g n c (u8s zs) h ad m cc (u8s ys) (by rw [u8s_length, hl, Nat.mul_one]) hnews (u8s_one ys) hroom
      exact ⟨_, c, w', hrun, by unfold OwnV; rw [hu]; exact h2, .inl ⟨rfl, rfl, by simp, (Turned.refl _ w).grown h3 (fun k e => by injection e with e; subst e; exact .inl rfl)⟩⟩
    · have hle := hr.le
      have hxl := hr.len
      have hrun := run_append_grow (P := P) w S ty 5 i (.int .u8 0) B.und hi hz0 ⟨g, 0, none⟩ n c (u8s zs) (by rw [u8s_length, hr.len, hz1, Nat.mul_one]) (news_of_row hr) ad m cc (u8s ys) (by rw [u8s_length, hl, hz1, Nat.mul_one]) hnews (by omega) (by omega) (by rw [hz2]; exact growslice_fits (by omega) (by omega))
      have hge := grownCap_ge w (n + m) c 5
      have hcm : grownCap w (n + m) c 5 ≤ maxLen := grownCap_le_maxLen w (n + m) c 5 (by unfold maxLen; omega)
      refine ⟨_, _, _, hrun, OwnV.of_row ⟨by rw [List.length_append, hxl, hl], hge, hcm, _, heap_alloc_new w.drew _, ?_, ?_⟩, .inr ⟨rfl, (Turned.refl _ w).drew.alloc _⟩⟩
      · simp only [Array.size_append, List.size_toArray, size_zeroCells, u8s_length, hxl, hl, Value.cells]
        simp
        omega
      · simp only [Array.toList_append]
        rw [hu, List.take_left' (by simp [u8s, hxl, hl])]
theorem wpList_app2 {ops : Array Oper} {rest : List Oper} {o : Oper} {a : Act} {Q : Exit → Act → World → Prop} (B : BytT P S 5) (hgd : o.guard = none) (s x : Operand) (ho : o.op = .call { callee := .builtin .append, args := #[s, x], argTypes := #[S, S] })
    (h : OwnV w A n c zs) (ad : Addr) (m cc : Nat) (ys : List Int) (hl : ys.length = m) (hnews : ∀ j u, (u8s ys)[j]? = some u → w.cell? (ad.add j) = some u) (hm : 0 < m) (hb : n + m ≤ 140737488355328) (hs : a.eval s = .slice A n c) (hx : a.eval x = .slice (some ad) m cc)
    (hC : ∀ A' c' w', OwnV w' A' (n + m) c' (zs ++ ys) → ((A' = A ∧ c' = c ∧ A ≠ none ∧ Turned (fun g => A = some ⟨g, 0, none⟩) w w') ∨ (A' = some ⟨w.heap.size, 0, none⟩ ∧ Turned (fun _ => False) w w')) → wpList P ops Q rest (a.put o.dst (.slice A' (n + m) c')) w') : wpList P ops Q (o :: rest) a w := by
  obtain ⟨A', c', w', hrun, h1, h2⟩ := run_app2 (ty := o.type) B h ad m cc ys hl hnews hm hb
  exact Lib.wpList_append_run w hgd s x S S ho _ _ hs hx _ _ hrun (hC A' c' w' h1 h2)
end
end Go.Proofs.YtijmfglgeaaoaaaGreatDoor

namespace Go.Proofs.YtijmfglgeaaoaaaGreatDoor
open Go.RowKit Go.Maps
set_option linter.unusedVariables false

/-- New bytes, or nil where there are none. -/
def PutPost (zs : List Int) (w : World) (e : Ending) (w' : World) : Prop := ∃ A c, e = .returned (.slice A zs.length c) ∧ OwnV w' A zs.length c zs ∧ (∀ g, A = some ⟨g, 0, none⟩ → w.heap.size ≤ g) ∧ Turned (fun _ => False) w w'
theorem OwnV.one (w : World) (x : Int) : OwnV (w.alloc (.cells #[.int .u8 x] 5)) (some ⟨w.heap.size, 0, none⟩) 1 1 [x] :=
  OwnV.of_row ⟨rfl, Nat.le_refl _, by unfold maxLen; omega, _, Blk.new _ _ _, rfl, rfl⟩
set_option maxRecDepth 100000 in
theorem crow_some (first : Int) (ad : Addr) (m cc : Nat) (ys : List Int) (w : World) (hl : ys.length = m) (hnews : ∀ j u, (u8s ys)[j]? = some u → w.cell? (ad.add j) = some u) (hm : 0 < m) (hm2 : m ≤ 1000000) :
    Calls Tryz.prog 93 #[.int .u8 first, .slice (some ad) m cc] w (PutPost (first :: ys) w) := by
  have ha : ∀ (t : World), Turned (fun _ => False) w t → ∀ j u, (u8s ys)[j]? = some u → t.cell? (ad.add j) = some u := fun t ht j u hu => cell_turned ht (hnews j u hu) (fun e => e)
  have ha' := Lib.hid ha
  have hl' := Lib.hid hl
  clear hnews ha hl
  go_enter Tryz.func93, Tryz.ntmps93
  go_wp2_with (at_builtin; refine wpList_app2 bytT rfl (.tmp 6) (.tmp 7) rfl (OwnV.one w first) ad m cc ys hl'.out (ha'.out _ ((Turned.refl _ w).alloc _)) hm (by omega) rfl rfl ?_; intro A' c' w4 ho4 hor4)
  go_ret
  have hlen : (first :: ys).length = 1 + m := by rw [List.length_cons, hl'.out]; omega
  refine ⟨A', c', by rw [hlen]; rfl, by rw [hlen]; exact ho4, fun g e => ?_, ?_⟩
  · rcases hor4 with ⟨e2, _⟩ | ⟨e2, _⟩
    · rw [e2] at e; injection e with e; injection e with e; omega
    · rw [e2] at e; injection e with e; injection e with e; simp at e; omega
  · rcases hor4 with ⟨_, _, _, ht⟩ | ⟨_, ht⟩
    · exact ((Turned.refl (fun _ => False) w).alloc _).trans ht (fun _ e => e) (fun g e => .inr (by injection e with e; injection e with e; omega))
    · exact ((Turned.refl (fun _ => False) w).alloc _).trans ht (fun _ e => e) (fun _ e => e.elim)
set_option maxRecDepth 100000 in
theorem crow_none (first : Int) (ad : Addr) (cc : Nat) (w : World) :
    Calls Tryz.prog 93 #[.int .u8 first, .slice (some ad) 0 cc] w (PutPost [first] w) := by
  obtain ⟨i0, hi, hz0, hz1, hz2⟩ := info_parts u8info
  have hI := Lib.hid (And.intro hi (And.intro hz0 (And.intro hz1 hz2)))
  clear hi hz0 hz1 hz2
  go_enter Tryz.func93, Tryz.ntmps93
  go_wp2_with (at_builtin; refine wpList_append_fits_any _ rfl (.tmp 6) (.tmp 7) 22 rfl 0 5 i0 1 Tryz.underlying22 hI.out.1 hI.out.2.2.1 w.heap.size 1 1 (u8s [first]) rfl (OwnV.one w first) (some ad) 0 cc [] rfl rfl (fun e => by cases e) (fun ad e j u hu => by simp at hu) (by simp) (by omega) ?_; intro w4 hown4 hg4)
  go_ret
  refine ⟨some ⟨w.heap.size, 0, none⟩, 1, rfl, ?_, fun g e => by injection e with e; injection e with e; omega, ((Turned.refl (fun _ => False) w).alloc _).grown hg4 (fun k e => by injection e with e; exact .inr (by omega))⟩
  simp only [List.append_nil, Nat.add_zero] at hown4
  exact hown4
theorem ba_empty {s : ByteArray} (h : s.size = 0) : s = ⟨#[]⟩ := by
  have : s.data = #[] := Array.eq_empty_of_size_eq_zero h
  cases s
  simp at this
  rw [this]
theorem ba_ne {s : ByteArray} (h : 0 < s.size) : ¬ s.toList = [] ∧ s.toList.isEmpty = false := by
  rw [ByteArray.toList_eq]
  have := ba_size s
  cases hd : s.data.toList with
  | nil => rw [hd] at this; simp at this; omega
  | cons a r => simp
theorem news_str (w : World) (s : ByteArray) : ∀ j u, (u8s (ints s.data.toList))[j]? = some u → (Lib.bytesWorld w 5 s).cell? ((⟨w.heap.size, 0, none⟩ : Addr).add j) = some u := by
  intro j u hu
  have hj : j < s.size := by
    have := (List.getElem?_eq_some_iff.1 hu).1
    rw [u8s_length, ints_length, ba_size] at this
    exact this
  rw [Addr.add_mid, Nat.zero_add, Lib.bytesWorld_cell w _ s j hj, ← hu]
  simp only [u8s, ints, List.getElem?_map, List.getD_eq_getElem?_getD]
  rw [List.getElem?_eq_getElem (by rw [ba_size]; exact hj)]
  rfl
theorem turned_bytes (w : World) (s : ByteArray) : Turned (fun _ => False) w (Lib.bytesWorld w 5 s) := Turned.of_below (Lib.bytesWorld_below w _ s) _
theorem PutPost.from_ {zs : List Int} {w w1 : World} {e : Ending} {w' : World} (h : PutPost zs w1 e w') (ht : Turned (fun _ => False) w w1) : PutPost zs w e w' := by
  obtain ⟨A, c, h1, h2, h3, h4⟩ := h
  exact ⟨A, c, h1, h2, fun g e => Nat.le_trans ht.size (h3 g e), ht.trans h4 (fun _ e => e) (fun _ e => e.elim)⟩
set_option maxRecDepth 100000 in
theorem put_any (s : ByteArray) (w : World) (hs : s.size ≤ 9223372036854775807) : Calls Tryz.prog 45 #[.string s] w (PutPost (putL s.data.toList) w) := by
  have kc := fun (w : World) => Lib.run_convert_string_bytes (P := Tryz.prog) w 9 22 5 s Tryz.underlying9 Tryz.underlying22 Tryz.underlying5
  by_cases h0 : s.size = 0
  · obtain rfl := ba_empty h0
    clear h0 hs
    go_enter Tryz.func45, Tryz.ntmps45
    go_wp2_with fail
    refine (crow_none 0 _ _ _).mono ?_
    intro e w1 hp
    obtain ⟨A, c, rfl, h2, h3, h4⟩ := hp.from_ (turned_bytes w _)
    go_wp2_with fail
    go_ret
    exact ⟨A, c, rfl, h2, h3, h4⟩
  · obtain ⟨hn1, hn2⟩ := ba_ne (s := s) (by omega)
    cases hc : codeL s.data.toList with
    | false =>
      have e : putL s.data.toList = [] := by
        unfold putL putOk
        rw [hc, ba_size, decide_eq_false h0]
        rfl
      have hr := right_any s w hs
      rw [hc] at hr
      have hr' := Lib.hid hr
      have e' := Lib.hid e
      clear hc hr e kc
      go_enter Tryz.func45, Tryz.ntmps45
      go_wp2_with fail
      refine hr'.out.mono ?_
      rintro e w1 ⟨rfl, ht⟩
      go_wp2_with fail
      go_ret
      rw [e'.out]
      exact ⟨none, 0, rfl, OwnV.nil _, (fun g e => by cases e), ht⟩
    | true =>
      have hl := (codeL_len hc).2.1
      rw [ba_size] at hl
      have e : putL s.data.toList = (s.size : Int) :: ints s.data.toList := by
        unfold putL putOk
        rw [hc, Bool.or_true, if_pos rfl, ba_size]
      have hr := right_any s w hs
      rw [hc] at hr
      have hr' := Lib.hid hr
      have e' := Lib.hid e
      clear hc hr e
      have hli : (s.size : Int) ≤ 12 := by omega
      go_enter Tryz.func45, Tryz.ntmps45
      go_wp2_with fail
      refine hr'.out.mono ?_
      rintro e w1 ⟨rfl, ht⟩
      have ht' := Lib.hid ht
      clear ht
      go_wp2_with fail
      refine (crow_some (s.size : Int) ⟨w1.heap.size, 0, none⟩ s.size _ (ints s.data.toList) _ (by rw [ints_length, ba_size]) (news_str w1 s) (by omega) (by omega)).mono ?_
      intro e w2 hp
      have hp2 := hp.from_ (ht'.out.and_ (turned_bytes w1 s))
      rw [← e'.out] at hp2
      obtain ⟨A, c, rfl, h2, h3, h4⟩ := hp2
      go_wp2_with fail
      go_ret
      exact ⟨A, c, rfl, h2, h3, h4⟩

theorem strCells_ints (s : ByteArray) : Lib.strCells s = u8s (ints s.data.toList) := by
  unfold Lib.strCells u8s ints
  simp
theorem wpList_app_str {P : Program} {w : World} {S U T : TypeId} {ops : Array Oper} {rest : List Oper} {o : Oper} {a : Act} {Q : Exit → Act → World → Prop} (B : BytT P S U) (hT : P.underlying T = some .string) (hgd : o.guard = none) (s x : Operand)
    (ho : o.op = .call { callee := .builtin .append, args := #[s, x], argTypes := #[S, T] }) {base n : Nat} {v : Value} {xs : List Int} (hown : w.ownsRow base U 1 v n (u8s xs)) (str : ByteArray) (hm : 0 < n) (hb : n + str.size ≤ 140737488355328) (hbase : base ≤ w.heap.size)
    (hs : a.eval s = v) (hx : a.eval x = .string str)
    (h : ∀ g cap w', RowB w' U g (n + str.size) cap (xs ++ ints str.data.toList) → base ≤ g → w.grownBy w' v.ownBlock → wpList P ops Q rest (a.put o.dst (.slice (some ⟨g, 0, none⟩) (n + str.size) cap)) w') : wpList P ops Q (o :: rest) a w := by
  obtain ⟨i, hi, hz0, hz1, hz2⟩ := info_parts B.info
  obtain ⟨v', w', hrun, h2, h3, _⟩ := Lib.run_append_own_string (P := P) w base S T o.type U i B.und hT hi hz0 hz1 hz2 v n (u8s xs) hown str (by unfold maxLen; omega) hb hbase
  obtain ⟨g, cap, rfl, hge, _⟩ := h2.form (by omega)
  refine Lib.wpList_append_run w hgd s x S T ho _ _ hs hx _ _ hrun (h g cap w' (RowB.of_own (base := base) ?_) hge h3)
  have : u8s (xs ++ ints str.data.toList) = u8s xs ++ Lib.strCells str := by rw [strCells_ints]; simp [u8s]
  rw [this]; exact h2
theorem rput_close {s : ByteArray} {w w1 w2 : World} {g cap : Nat} {first : Int} (ht : Turned (fun _ => False) w w1) (hr : RowB w2 5 g (1 + s.size) cap ([first] ++ ints s.data.toList)) (hg : w1.heap.size ≤ g) (hgr : (w1.alloc (.cells #[.int .u8 first] 5)).grownBy w2 (some w1.heap.size)) :
    PutPost (first :: ints s.data.toList) w (.returned (.slice (some ⟨g, 0, none⟩) (1 + s.size) cap)) w2 := by
  have hl : (first :: ints s.data.toList).length = 1 + s.size := by rw [List.length_cons, ints_length, ba_size]; omega
  refine ⟨some ⟨g, 0, none⟩, cap, by rw [hl], by rw [hl]; exact OwnV.of_row hr, fun g' e => ?_, ((ht.alloc _).grown hgr (fun k e => by injection e with e; have := ht.size; exact .inr (by omega)))⟩
  injection e with e
  injection e with e
  have := ht.size
  omega
set_option maxRecDepth 100000 in
theorem rput_any (s : ByteArray) (w : World) (hs : s.size ≤ 9223372036854775807) : Calls Tryz.prog 91 #[.string s] w (PutPost (putL s.data.toList) w) := by
  by_cases h0 : s.size = 0
  · obtain rfl := ba_empty h0
    clear h0 hs
    go_enter Tryz.func91, Tryz.ntmps91
    go_wp2_with (at_builtin; refine wpList_app_str bytT Tryz.underlying9 rfl (.tmp 13) (.tmp 14) rfl (base := w.heap.size) (n := 1) (xs := [0]) ((OwnV.one w 0).row.own (Nat.le_refl _)) ⟨#[]⟩ (by omega) (by decide) (by simp) rfl rfl ?_; intro g cap w2 hr2 hg2 hgr2)
    go_ret
    exact rput_close (s := ⟨#[]⟩) (Turned.refl _ w) hr2 hg2 hgr2
  · obtain ⟨hn1, hn2⟩ := ba_ne (s := s) (by omega)
    cases hc : codeL s.data.toList with
    | false =>
      have e : putL s.data.toList = [] := by
        unfold putL putOk
        rw [hc, ba_size, decide_eq_false h0]
        rfl
      have hr := rright_any s w hs
      rw [hc] at hr
      have hr' := Lib.hid hr
      have e' := Lib.hid e
      clear hc hr e
      go_enter Tryz.func91, Tryz.ntmps91
      go_wp2_with fail
      refine hr'.out.mono ?_
      rintro e w1 ⟨rfl, rfl⟩
      go_wp2_with fail
      go_ret
      rw [e'.out]
      exact ⟨none, 0, rfl, OwnV.nil _, (fun g e => by cases e), Turned.refl _ _⟩
    | true =>
      have hl := (codeL_len hc).2.1
      rw [ba_size] at hl
      have e : putL s.data.toList = (s.size : Int) :: ints s.data.toList := by
        unfold putL putOk
        rw [hc, Bool.or_true, if_pos rfl, ba_size]
      have hr := rright_any s w hs
      rw [hc] at hr
      have hr' := Lib.hid hr
      have e' := Lib.hid e
      clear hc hr e
      have hli : (s.size : Int) ≤ 12 := by omega
      go_enter Tryz.func91, Tryz.ntmps91
      go_wp2_with fail
      refine hr'.out.mono ?_
      rintro e w1 ⟨rfl, rfl⟩
      go_wp2_with (at_builtin; refine wpList_app_str bytT Tryz.underlying9 rfl (.tmp 13) (.tmp 14) rfl (base := w.heap.size) (n := 1) (xs := [(s.size : Int)]) ((OwnV.one w (s.size : Int)).row.own (Nat.le_refl _)) s (by omega) (by omega) (by simp) rfl rfl ?_; intro g cap w2 hr2 hg2 hgr2)
      go_ret
      rw [e'.out]
      exact rput_close (Turned.refl _ w) hr2 hg2 hgr2
end Go.Proofs.YtijmfglgeaaoaaaGreatDoor

