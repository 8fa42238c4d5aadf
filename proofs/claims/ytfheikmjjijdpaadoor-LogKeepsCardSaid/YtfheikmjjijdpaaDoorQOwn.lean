/-
  ytfheikmjjijdpaadoor: laws and walks on the road to LogKeeps, joined: Kit KitB Awk Own. Conditions stand at each theorem.
-/
import Derived.Test.YtfheikmjjijdpaaDoorQDskD
import Derived.BigQuiet
import Derived.Deep.QuietTactic
import Derived.IntWalk
import Derived.Lib.AppendZerosOnto
import Derived.Lib.AppendStr
namespace Go.Proofs.YtfheikmjjijdpaaDoor
open Go.RowKit Go.Maps

theorem ret_int {k : IntKind} {a b : Int} (h : a = b) : Ending.returned (.int k a) = .returned (.int k b) := by rw [h]
theorem ret_bool {a b : Bool} (h : a = b) : Ending.returned (.bool a) = .returned (.bool b) := by rw [h]
theorem tmod_neg (x n : Int) (hx : x < 0) (hn : 1 ≤ n) : -n < x.tmod n ∧ x.tmod n ≤ 0 ∧ (x % n = if x.tmod n < 0 then x.tmod n + n else x.tmod n) := by
  have h1 := Int.tmod_add_mul_tdiv x n
  have h2 : x.tmod n = -((-x) % n) := by
    rw [show x = -(-x) by omega, Int.neg_tmod, Int.tmod_eq_emod_of_nonneg (by omega)]; simp
  have h3 := Int.emod_nonneg (-x) (show n ≠ 0 by omega)
  have h4 := Int.emod_lt_of_pos (-x) (show 0 < n by omega)
  refine ⟨by omega, by omega, ?_⟩
  split
  · have e : x.tmod n + n + n * (x.tdiv n - 1) = x := by rw [Int.mul_sub]; omega
    exact ((Int.ediv_emod_unique (a := x) (b := n) (r := x.tmod n + n) (q := x.tdiv n - 1) (by omega)).2 ⟨e, by omega, by omega⟩).2
  · exact ((Int.ediv_emod_unique (a := x) (b := n) (r := x.tmod n) (q := x.tdiv n) (by omega)).2 ⟨h1, by omega, by omega⟩).2

theorem pick_any (x n : Int) (w : World) (hn : 1 ≤ n) (hn2 : n ≤ 1000000) (hx1 : -9223372036854775808 ≤ x) (hx2 : x ≤ 9223372036854775807) :
    Calls Tryd.prog 10 #[.int .i64 x, .int .i64 n] w (RetSame (.int .i64 (x % n)) w) := by
  by_cases h0 : 0 ≤ x
  · have := Int.emod_nonneg x (show n ≠ 0 by omega)
    go_enter Tryd.func10, Tryd.ntmps10
    go_wp2
    go_ret
    exact ⟨rfl, rfl⟩
  · obtain ⟨h1, h2, h3⟩ := tmod_neg x n (by omega) hn
    by_cases h4 : x.tmod n < 0
    · rw [if_pos h4] at h3
      have h3' := Lib.hid h3
      clear h3
      go_enter Tryd.func10, Tryd.ntmps10
      go_wp2
      go_ret
      exact ⟨ret_int h3'.out.symm, rfl⟩
    · rw [if_neg h4] at h3
      have h3' := Lib.hid h3
      clear h3
      go_enter Tryd.func10, Tryd.ntmps10
      go_wp2
      go_ret
      exact ⟨ret_int h3'.out.symm, rfl⟩

theorem RowB.set {w : World} {U g n cap : Nat} {zs : List Int} (h : RowB w U g n cap zs) (i : Nat) (z : Int) : RowB (w.setCell ⟨g, i, none⟩ (.int .u8 z)) U g n cap (zs.set i z) := by
  obtain ⟨cs, hb, hs, ht⟩ := h.row
  refine ⟨by simp [h.len], h.le, h.max, _, hb.set_ i _, by simp [hs], ?_⟩
  simp only [Array.toList_setIfInBounds]
  rw [List.take_set, ht]
  simp [u8s, List.map_set]

theorem made_u8 (n : Nat) : (madeCells (Value.int .u8 0).cells (n * 1)).toList = u8s (List.replicate n 0) := by
  unfold madeCells u8s
  apply List.ext_getElem
  · simp
  · intro i h1 h2
    simp [Value.cells, Nat.mod_one]

/-- n bytes zs at A. -/
structure BytR (w : World) (A : Option Addr) (n : Nat) (zs : List Int) : Prop where
  len : zs.length = n
  max : n ≤ 9223372036854775807
  cell : 0 < n → ∃ b off, A = some ⟨b, off, none⟩ ∧ ∀ j, j < n → w.cell? ⟨b, off + j, none⟩ = some (.int .u8 (zs.getD j 0))
theorem BytR.none_ (w : World) : BytR w none 0 [] := ⟨rfl, by omega, fun h => absurd h (by omega)⟩
theorem RowB.bytR {w : World} {U g n cap : Nat} {zs : List Int} (h : RowB w U g n cap zs) : BytR w (some ⟨g, 0, none⟩) n zs :=
  ⟨h.len, by have := h.le; have := h.max; unfold maxLen at this; omega, fun _ => ⟨g, 0, rfl, fun j hj => by rw [Nat.zero_add]; exact h.cell hj⟩⟩

def RetDraw (v : Value) (w : World) (e : Ending) (w' : World) : Prop := e = .returned v ∧ ∃ n, w' = w.drewN n

theorem getD_ext {zs ys : List Int} (hl : zs.length = ys.length) (h : ∀ j, j < zs.length → zs.getD j 0 = ys.getD j 0) : zs = ys := by
  apply List.ext_getElem hl
  intro i h1 h2
  have := h i h1
  simp only [List.getD_eq_getElem?_getD, List.getElem?_eq_getElem h1, List.getElem?_eq_getElem h2] at this
  exact this

def SameRel (n : Nat) (zs ys : List Int) (w : World) (i : Value) (wr : World) : Prop := ∃ j k : Nat, j ≤ n ∧ i = .int .i64 j ∧ wr = w.drewN k ∧ ∀ t, t < j → zs.getD t 0 = ys.getD t 0
set_option maxHeartbeats 400000 in
theorem same_bytes (A B : Option Addr) (n m c1 c2 : Nat) (zs ys : List Int) (w : World) (hz : BytR w A n zs) (hy : BytR w B m ys) :
    Calls Tryd.prog 83 #[.slice A n c1, .slice B m c2] w (RetDraw (.bool (decide (zs = ys))) w) := by
  have hn := hz.max
  have hm := hy.max
  by_cases hnm : n = m
  · subst hnm
    have hz' := Lib.hid hz
    have hy' := Lib.hid hy
    clear hz hy
    go_enter Tryd.func83, Tryd.ntmps83
    go_wp2
    go_loopw [5] (fun i wr => SameRel n zs ys w i wr) (fun i _ => n - (intOf i).toNat)
    case atStart => exact ⟨0, 0, by omega, rfl, rfl, fun t ht => absurd ht (by omega)⟩
    case round =>
      obtain ⟨j, k, hj, rfl, rfl, hall⟩ := hrel
      have hall' := Lib.hid hall
      clear hall
      by_cases hlt : j < n
      · obtain ⟨b1, o1, rfl, k1⟩ := hz'.out.cell (by omega)
        obtain ⟨b2, o2, rfl, k2⟩ := hy'.out.cell (by omega)
        have q1 := k1 j hlt
        have q2 := k2 j hlt
        clear k1 k2
        generalize hx1 : zs.getD j 0 = x1 at q1
        generalize hx2 : ys.getD j 0 = x2 at q2
        have hx1' := Lib.hid hx1
        have hx2' := Lib.hid hx2
        clear hx1 hx2
        have hj0 : (0 : Int) ≤ (j : Int) := by omega
        have hjn : (j : Int) < (n : Int) := by omega
        by_cases he : x1 = x2
        · subst he
          have hall2 : ∀ t, t < j + 1 → zs.getD t 0 = ys.getD t 0 := by
            intro t ht
            by_cases e : t = j
            · subst e; rw [hx1'.out, hx2'.out]
            · exact hall'.out t (by omega)
          have hall3 := Lib.hid hall2
          clear hall2
          go_wp2
          go_quiet (fail)
          go_wp2
          go_roundw
          case rel =>
            first
            | exact ⟨j + 1, k + nq, by omega, by go_num, by first | rfl | rw [World.drewN_drewN], hall3.out⟩
            | ((repeat apply Exists.intro); exact ⟨⟨j + 1, k + nq, by omega, by go_num, by first | rfl | rw [World.drewN_drewN], hall3.out⟩, rfl⟩)
          case measure => simp [intOf]; omega
        · have hne : (x1 != x2) = true := by simpa using he
          clear he
          go_wp2
          go_quiet (fail)
          go_wp2
          go_ret
          refine ⟨ret_bool ?_, k + nq, by first | rfl | rw [World.drewN_drewN]⟩
          symm
          rw [decide_eq_false_iff_not]
          intro e
          subst e
          have := hx1'.out.symm.trans hx2'.out
          subst this
          simp at hne
      · have hjn : j = n := by omega
        have hjn' := Lib.hid hjn
        have hge : (n : Int) ≤ (j : Int) := by omega
        clear hj hjn
        go_wp2
        go_ret
        refine ⟨ret_bool ?_, _, rfl⟩
        symm
        rw [decide_eq_true_eq]
        have l1 := hz'.out.len
        have l2 := hy'.out.len
        have e := hjn'.out
        exact getD_ext (by omega) (fun t ht => hall'.out t (by omega))
  · have hne : ((n : Int) != (m : Int)) = true := by rw [bne_iff_ne]; omega
    have hd : decide (zs = ys) = false := by
      rw [decide_eq_false_iff_not]
      intro e
      have l1 := hz.len
      have l2 := hy.len
      rw [e] at l1
      omega
    have hd' := Lib.hid hd
    clear hz hy hd
    go_enter Tryd.func83, Tryd.ntmps83
    go_wp2
    go_ret
    exact ⟨ret_bool hd'.out.symm, 0, rfl⟩
end Go.Proofs.YtfheikmjjijdpaaDoor

namespace Go.Proofs.YtfheikmjjijdpaaDoor
open Go.RowKit Go.Maps

/-- A slice of bytes that may be nil, then without room. -/
structure BytS (w : World) (A : Option Addr) (n c : Nat) (zs : List Int) : Prop extends BytR w A n zs where
  nil_ : A = none → n = 0 ∧ c = 0
theorem BytS.news {w : World} {A : Option Addr} {n c : Nat} {zs : List Int} (h : BytS w A n c zs) : ∀ ad, A = some ad → ∀ j u, (u8s zs)[j]? = some u → w.cell? (ad.add j) = some u := by
  intro ad had j u hu
  have hj : j < n := by
    have := (List.getElem?_eq_some_iff.1 hu).1
    rw [u8s_length, h.len] at this
    exact this
  obtain ⟨b, off, rfl, hc⟩ := h.cell (by omega)
  injection had with had
  subst had
  have hl := h.len
  rw [Addr.add_mid, hc j hj, ← hu]
  simp only [u8s, List.getElem?_map, List.getD_eq_getElem?_getD]
  rw [List.getElem?_eq_getElem (by omega)]
  rfl
theorem RowB.bytS {w : World} {U g n cap : Nat} {zs : List Int} (h : RowB w U g n cap zs) (c : Nat) : BytS w (some ⟨g, 0, none⟩) n c zs := ⟨h.bytR, fun e => by cases e⟩
theorem BytR.turned {w w' : World} {W : Nat → Prop} {A : Option Addr} {n : Nat} {zs : List Int} (h : BytR w A n zs) (ht : Turned W w w') (hW : ∀ b o, A = some ⟨b, o, none⟩ → ¬ W b) : BytR w' A n zs :=
  ⟨h.len, h.max, fun hn => by
    obtain ⟨b, off, e, hc⟩ := h.cell hn
    exact ⟨b, off, e, fun j hj => cell_turned ht (hc j hj) (hW b off e)⟩⟩
theorem BytS.turned {w w' : World} {W : Nat → Prop} {A : Option Addr} {n c : Nat} {zs : List Int} (h : BytS w A n c zs) (ht : Turned W w w') (hW : ∀ b o, A = some ⟨b, o, none⟩ → ¬ W b) : BytS w' A n c zs :=
  ⟨h.toBytR.turned ht hW, h.nil_⟩

end Go.Proofs.YtfheikmjjijdpaaDoor

namespace Go.Proofs.YtfheikmjjijdpaaDoor
open Go.RowKit Go.Maps

theorem same_yes (A B : Option Addr) (n m c1 c2 : Nat) (zs ys : List Int) (w : World) (hz : BytR w A n zs) (hy : BytR w B m ys) (h : zs = ys) :
    Calls Tryd.prog 83 #[.slice A n c1, .slice B m c2] w (RetDraw (.bool true) w) := by
  have := same_bytes A B n m c1 c2 zs ys w hz hy
  rw [decide_eq_true h] at this
  exact this

def OkNew (w : World) (e : Ending) (w' : World) : Prop := e = .returned (.bool true) ∧ Turned (fun _ => False) w w'

end Go.Proofs.YtfheikmjjijdpaaDoor

namespace Go.Proofs.YtfheikmjjijdpaaDoor
open Go.RowKit Go.Maps

def OwnV (w : World) (A : Option Addr) (n c : Nat) (zs : List Int) : Prop := w.ownsRow 0 5 1 (.slice A n c) n (u8s zs)
section
variable {w w' : World} {A : Option Addr} {n c : Nat} {zs : List Int}
theorem OwnV.nil (w : World) : OwnV w none 0 0 [] := World.ownsRow_nil _ _ _ _
theorem OwnV.of_row {g : Nat} (h : RowB w 5 g n c zs) : OwnV w (some ⟨g, 0, none⟩) n c zs := h.own (Nat.zero_le _)
theorem OwnV.row_or (h : OwnV w A n c zs) : (A = none ∧ n = 0 ∧ c = 0 ∧ zs = []) ∨ ∃ g, A = some ⟨g, 0, none⟩ ∧ RowB w 5 g n c zs := by
  rcases h.2 with ⟨h1, h2⟩ | ⟨g, cap, cur, hv, _⟩
  · left
    injection h1 with h3 h4 h5
    refine ⟨h3, h2, h5, ?_⟩
    have := h.1
    rw [u8s_length, h2] at this
    exact List.length_eq_zero_iff.1 (by omega)
  · right
    injection hv with h3 h4 h5
    subst h3 h5
    exact ⟨g, rfl, RowB.of_own (base := 0) h⟩
theorem OwnV.len (h : OwnV w A n c zs) : zs.length = n := by
  have := h.1
  rw [u8s_length] at this
  omega
theorem OwnV.row {g : Nat} (h : OwnV w (some ⟨g, 0, none⟩) n c zs) : RowB w 5 g n c zs := RowB.of_own (base := 0) h
theorem OwnV.some_ (h : OwnV w A n c zs) (hn : 0 < n) : ∃ g, A = some ⟨g, 0, none⟩ ∧ RowB w 5 g n c zs := by
  rcases h.row_or with ⟨_, h1, _⟩ | h1
  · omega
  · exact h1
theorem OwnV.turned {W : Nat → Prop} (h : OwnV w A n c zs) (ht : Turned W w w') (hW : ∀ g, A = some ⟨g, 0, none⟩ → ¬ W g) : OwnV w' A n c zs := by
  rcases h.row_or with ⟨rfl, rfl, rfl, rfl⟩ | ⟨g, rfl, hr⟩
  · exact OwnV.nil _
  · exact OwnV.of_row (hr.turned ht (hW g rfl))
theorem OwnV.set {g : Nat} (h : OwnV w (some ⟨g, 0, none⟩) n c zs) (i : Nat) (z : Int) : OwnV (w.setCell ⟨g, i, none⟩ (.int .u8 z)) (some ⟨g, 0, none⟩) n c (zs.set i z) := OwnV.of_row (h.row.set i z)
theorem OwnV.far {g : Nat} (h : OwnV w A n c zs) (hA : A ≠ some ⟨g, 0, none⟩) (i : Nat) (u : Value) : OwnV (w.setCell ⟨g, i, none⟩ u) A n c zs :=
  h.turned ((Turned.refl (· = g) w).setCell (.inl rfl) u) (fun g' e e' => hA (by rw [e, e']))
theorem OwnV.take {m : Nat} (h : OwnV w A n c zs) (hm : m ≤ n) (hs : A ≠ none) : OwnV w A m c (zs.take m) := by
  rcases h.row_or with ⟨rfl, _⟩ | ⟨g, rfl, hr⟩
  · exact absurd rfl hs
  · exact OwnV.of_row (hr.cut hm)
theorem OwnV.lt {g : Nat} (h : OwnV w A n c zs) (hA : A = some ⟨g, 0, none⟩) : g < w.heap.size := by subst hA; exact h.row.lt
theorem OwnV.max (h : OwnV w A n c zs) : n ≤ c ∧ c ≤ maxLen := by
  rcases h.row_or with ⟨_, rfl, rfl, _⟩ | ⟨g, rfl, hr⟩
  · exact ⟨Nat.le_refl _, Nat.zero_le _⟩
  · exact ⟨hr.le, hr.max⟩
theorem OwnV.blk {g L : Nat} {T : TypeId} {cs : Array Value} (h : OwnV w A n c zs) (hL : Blk w L T cs) (hT : T ≠ 5) (hA : A = some ⟨g, 0, none⟩) : g ≠ L := by
  subst hA
  obtain ⟨cs', hb, _⟩ := h.row.row
  rintro rfl
  exact hT (Blk.inj hL hb).2
end

section
variable {P : Program} {w : World} {S : TypeId} {A : Option Addr} {n c : Nat} {zs : List Int}
/-- append, by whether there was room. -/
theorem run_app2 (B : BytT P S 5) {ty : TypeId} (h : OwnV w A n c zs) (ad : Addr) (m cc : Nat) (ys : List Int) (hl : ys.length = m) (hnews : ∀ j u, (u8s ys)[j]? = some u → w.cell? (ad.add j) = some u) (hm : 0 < m) (hb : n + m ≤ 140737488355328) :
    ∃ A' c' w', (Builtin.append_ #[S, S] ty #[.slice A n c, .slice (some ad) m cc]).run P w = .ok (.slice A' (n + m) c') w' ∧ OwnV w' A' (n + m) c' (zs ++ ys) ∧
      ((A' = A ∧ c' = c ∧ A ≠ none ∧ Turned (fun g => A = some ⟨g, 0, none⟩) w w') ∨ (A' = some ⟨w.heap.size, 0, none⟩ ∧ Turned (fun _ => False) w w')) := by
  obtain ⟨i, hi, hz0, hz1, hz2⟩ := info_parts B.info
  have hu : u8s (zs ++ ys) = u8s zs ++ u8s ys := by simp [u8s]
  rcases h.row_or with ⟨rfl, rfl, rfl, rfl⟩ | ⟨g, rfl, hr⟩
  · obtain ⟨g, cap, w', hrun, h2, h3, h4, h5⟩ := run_append_lies (P := P) w S ty 0 5 i (.int .u8 0) 1 1 B.und hi hz0 hz1 hz2 rfl (by omega) _ 0 [] (World.ownsRow_nil w 0 5 1) ad m cc (u8s ys) (by rw [u8s_length, hl, Nat.mul_one]) hnews (u8s_one ys) hm (by unfold maxLen; omega) (by omega) (Nat.zero_le _) _ rfl
    rcases h4 with h4 | h4
    · cases h4
    · subst h4
      exact ⟨_, cap, w', hrun, by unfold OwnV; rw [hu]; exact h2, .inr ⟨rfl, (Turned.refl _ w).grown h3 (fun k e => by cases e)⟩⟩
  · by_cases hroom : n + m ≤ c
    · obtain ⟨w', hrun, h2, h3⟩ := run_append_fits (P := P) w 0 S ty 5 i 1 B.und hi hz1 g n c (u8s zs) h ad m cc (u8s ys) (by rw [u8s_length, hl, Nat.mul_one]) hnews (u8s_one ys) hroom
      exact ⟨_, c, w', hrun, by unfold OwnV; rw [hu]; exact h2, .inl ⟨rfl, rfl, by simp, (Turned.refl _ w).grown h3 (fun k e => by injection e with e; subst e; exact .inl rfl)⟩⟩
    · have hle := hr.le
      have hxl := hr.len
      have hrun := run_append_grow (P := P) w S ty 5 i (.int .u8 0) B.und hi hz0 ⟨g, 0, none⟩ n c (u8s zs) (by rw [u8s_length, hr.len, hz1, Nat.mul_one]) (news_of_row hr) ad m cc (u8s ys) (by rw [u8s_length, hl, hz1, Nat.mul_one]) hnews (by omega) (by omega) (by rw [hz2]; exact growslice_fits (by omega) (by omega))
      have hge := grownCap_ge w (n + m) c 5
      have hcm : grownCap w (n + m) c 5 ≤ maxLen := grownCap_le_maxLen w (n + m) c 5 (by unfold maxLen; omega)
      refine ⟨_, _, _, hrun, OwnV.of_row ⟨by rw [List.length_append, hxl, hl], hge, hcm, _, heap_alloc_new w.drew _, ?_, ?_⟩, .inr ⟨rfl, (Turned.refl _ w).drew.alloc _⟩⟩
      · simp only [Array.size_append, List.size_toArray, size_zeroCells, u8s_length, hxl, hl, Value.cells]
        simp
        omega
      · simp only [Array.toList_append]
        rw [hu, List.take_left' (by simp [u8s, hxl, hl])]
theorem wpList_app2 {ops : Array Oper} {rest : List Oper} {o : Oper} {a : Act} {Q : Exit → Act → World → Prop} (B : BytT P S 5) (hgd : o.guard = none) (s x : Operand) (ho : o.op = .call { callee := .builtin .append, args := #[s, x], argTypes := #[S, S] })
    (h : OwnV w A n c zs) (ad : Addr) (m cc : Nat) (ys : List Int) (hl : ys.length = m) (hnews : ∀ j u, (u8s ys)[j]? = some u → w.cell? (ad.add j) = some u) (hm : 0 < m) (hb : n + m ≤ 140737488355328) (hs : a.eval s = .slice A n c) (hx : a.eval x = .slice (some ad) m cc)
    (hC : ∀ A' c' w', OwnV w' A' (n + m) c' (zs ++ ys) → ((A' = A ∧ c' = c ∧ A ≠ none ∧ Turned (fun g => A = some ⟨g, 0, none⟩) w w') ∨ (A' = some ⟨w.heap.size, 0, none⟩ ∧ Turned (fun _ => False) w w')) → wpList P ops Q rest (a.put o.dst (.slice A' (n + m) c')) w') : wpList P ops Q (o :: rest) a w := by
  obtain ⟨A', c', w', hrun, h1, h2⟩ := run_app2 (ty := o.type) B h ad m cc ys hl hnews hm hb
  exact Lib.wpList_append_run w hgd s x S S ho _ _ hs hx _ _ hrun (hC A' c' w' h1 h2)
end
end Go.Proofs.YtfheikmjjijdpaaDoor

