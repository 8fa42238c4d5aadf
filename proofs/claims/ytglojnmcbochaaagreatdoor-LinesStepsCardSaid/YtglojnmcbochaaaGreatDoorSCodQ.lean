/-
  ytglojnmcbochaaagreatdoor: laws and walks on the road to LinesSteps, joined: CodB KitB Own CodC CodD CodQ. Conditions stand at each theorem.
-/
import Derived.Test.YtglojnmcbochaaaGreatDoorSCodA
import Derived.Laws.BytesString
import Derived.IntWalk
import Derived.Lib.AppendZerosOnto
import Derived.Lib.AppendStr
import Derived.Lib.ConvBytes
import Derived.Lib.AtoiErrMem
import Derived.Laws.BytesArg
namespace Go.Proofs.YtglojnmcbochaaaGreatDoor
open Go.RowKit Go.Maps
set_option linter.unusedVariables false

theorem not_ok_at {s : ByteArray} {pos : Nat} (hp : pos < s.size) (h : okAt pos (s[pos]'hp).toNat = true) (ho : okFrom 0 (s.data.toList.take pos) = true) : okFrom 0 (s.data.toList.take (pos + 1)) = true := by
  rw [okFrom_snoc _ _ (by rw [ba_size]; exact hp), ho, ba_get s pos hp, h]
  rfl
set_option maxRecDepth 100000 in
set_option maxHeartbeats 1000000 in
theorem rright_any (s : ByteArray) (w : World) (hs : s.size ≤ 9223372036854775807) :
    Calls Tryz.prog 109 #[.string s] w (RetSame (.bool (codeL s.data.toList)) w) := by
  by_cases h1 : s.size < 1
  · have e : codeL s.data.toList = false := by
      unfold codeL
      rw [ba_size]
      have : decide (0 < s.size) = false := decide_eq_false (by omega)
      rw [this]
      rfl
    have h1i : (s.size : Int) < 1 := by omega
    have e' := Lib.hid e
    clear e
    go_enter Tryz.func109, Tryz.ntmps109
    go_wp2
    go_ret
    rw [e'.out]
    exact ⟨rfl, rfl⟩
  · by_cases h2 : 12 < s.size
    · have e : codeL s.data.toList = false := by
        unfold codeL
        rw [ba_size]
        have : decide (s.size ≤ 12) = false := decide_eq_false (by omega)
        rw [this]
        simp
      have h1i : (1 : Int) ≤ (s.size : Int) := by omega
      have h2i : (12 : Int) < (s.size : Int) := by omega
      have e' := Lib.hid e
      clear e
      go_enter Tryz.func109, Tryz.ntmps109
      go_wp2
      go_ret
      rw [e'.out]
      exact ⟨rfl, rfl⟩
    · have h1i : (1 : Int) ≤ (s.size : Int) := by omega
      have h2i : (s.size : Int) ≤ 12 := by omega
      go_enter Tryz.func109, Tryz.ntmps109
      go_wp2
      go_loop [3] (fun i => ∃ j : Nat, j ≤ s.size ∧ i = .int .i64 j ∧ okFrom 0 (s.data.toList.take j) = true) (fun i => s.size - (intOf i).toNat)
      case atStart => exact ⟨0, by omega, rfl, rfl⟩
      case round =>
        obtain ⟨j, hj, rfl, ho⟩ := hrel
        have ho' := Lib.hid ho
        clear ho
        by_cases hlt : j < s.size
        · have hji : (j : Int) < (s.size : Int) := by omega
          by_cases hok : okAt j (s[j]'hlt).toNat = true
          · have hR := Lib.hid (not_ok_at hlt hok ho'.out)
            rw [okAt_iff] at hok
            go_wp2
            all_goals first
              | (go_round
                 case rel => exact ⟨j + 1, by omega, by go_num, hR.out⟩
                 case measure => simp [intOf]; omega)
              | (exfalso; simp only [beq_iff_eq, beq_eq_false_iff_ne, ne_eq, Bool.not_eq_eq_eq_not, Bool.not_true] at *; omega)
              | (subst_vars; exfalso; simp only [Bool.not_eq_false', Bool.not_eq_true', decide_eq_true_eq, decide_eq_false_iff_not, beq_iff_eq, beq_eq_false_iff_ne, ne_eq] at *; omega)
          · have hno := Lib.hid (not_code hlt hok)
            rw [okAt_iff] at hok
            go_wp2
            all_goals first
              | (go_ret; rw [hno.out]; exact ⟨rfl, rfl⟩)
              | (exfalso; simp only [decide_eq_true_eq, beq_iff_eq, beq_eq_false_iff_ne, ne_eq, Bool.not_eq_eq_eq_not, Bool.not_false] at *; omega)
              | (subst_vars; exfalso; simp only [] at *; omega)
        · have hjn : s.size = j := by omega
          have hge : (s.size : Int) ≤ (j : Int) := by omega
          have e : codeL s.data.toList = true := by
            have := ho'.out
            rw [← hjn, List.take_of_length_le (by rw [ba_size]; exact Nat.le_refl _)] at this
            exact codeL_mk (by rw [ba_size]; omega) (by rw [ba_size]; omega) this
          have e' := Lib.hid e
          clear e hjn
          go_wp2
          go_ret
          rw [e'.out]
          exact ⟨rfl, rfl⟩
end Go.Proofs.YtglojnmcbochaaaGreatDoor

namespace Go.Proofs.YtglojnmcbochaaaGreatDoor
open Go.RowKit Go.Maps

/-- A slice of bytes that may be nil, then without room. -/
structure BytS (w : World) (A : Option Addr) (n c : Nat) (zs : List Int) : Prop extends BytR w A n zs where
  nil_ : A = none → n = 0 ∧ c = 0
theorem BytS.news {w : World} {A : Option Addr} {n c : Nat} {zs : List Int} (h : BytS w A n c zs) : ∀ ad, A = some ad → ∀ j u, (u8s zs)[j]? = some u → w.cell? (ad.add j) = some u := by
  intro ad had j u hu
  have hj : j < n := by
    have := (List.getElem?_eq_some_iff.1 hu).1
    rw [u8s_length, h.len] at this
    exact this
  obtain ⟨b, off, rfl, hc⟩ := h.cell (by omega)
  injection had with had
  subst had
  have hl := h.len
  rw [Addr.add_mid, hc j hj, ← hu]
  simp only [u8s, List.getElem?_map, List.getD_eq_getElem?_getD]
  rw [List.getElem?_eq_getElem (by omega)]
  rfl
theorem BytR.turned {w w' : World} {W : Nat → Prop} {A : Option Addr} {n : Nat} {zs : List Int} (h : BytR w A n zs) (ht : Turned W w w') (hW : ∀ b o, A = some ⟨b, o, none⟩ → ¬ W b) : BytR w' A n zs :=
  ⟨h.len, h.max, fun hn => by
    obtain ⟨b, off, e, hc⟩ := h.cell hn
    exact ⟨b, off, e, fun j hj => cell_turned ht (hc j hj) (hW b off e)⟩⟩
theorem BytS.turned {w w' : World} {W : Nat → Prop} {A : Option Addr} {n c : Nat} {zs : List Int} (h : BytS w A n c zs) (ht : Turned W w w') (hW : ∀ b o, A = some ⟨b, o, none⟩ → ¬ W b) : BytS w' A n c zs :=
  ⟨h.toBytR.turned ht hW, h.nil_⟩

end Go.Proofs.YtglojnmcbochaaaGreatDoor

namespace Go.Proofs.YtglojnmcbochaaaGreatDoor
open Go.RowKit Go.Maps

def OwnV (w : World) (A : Option Addr) (n c : Nat) (zs : List Int) : Prop := w.ownsRow 0 5 1 (.slice A n c) n (u8s zs)
section
variable {w w' : World} {A : Option Addr} {n c : Nat} {zs : List Int}
theorem OwnV.nil (w : World) : OwnV w none 0 0 [] := World.ownsRow_nil _ _ _ _
theorem OwnV.of_row {g : Nat} (h : RowB w 5 g n c zs) : OwnV w (some ⟨g, 0, none⟩) n c zs := h.own (Nat.zero_le _)
theorem OwnV.row_or (h : OwnV w A n c zs) : (A = none ∧ n = 0 ∧ c = 0 ∧ zs = []) ∨ ∃ g, A = some ⟨g, 0, none⟩ ∧ RowB w 5 g n c zs := by
  rcases h.2 with ⟨h1, h2⟩ | ⟨g, cap, cur, hv, _⟩
  · left
    injection h1 with h3 h4 h5
    refine ⟨h3, h2, h5, ?_⟩
    have := h.1
    rw [u8s_length, h2] at this
    exact List.length_eq_zero_iff.1 (by omega)
  · right
    injection hv with h3 h4 h5
    subst h3 h5
    exact ⟨g, rfl, RowB.of_own (base := 0) h⟩
theorem OwnV.len (h : OwnV w A n c zs) : zs.length = n := by
  have := h.1
  rw [u8s_length] at this
  omega
theorem OwnV.row {g : Nat} (h : OwnV w (some ⟨g, 0, none⟩) n c zs) : RowB w 5 g n c zs := RowB.of_own (base := 0) h
theorem OwnV.some_ (h : OwnV w A n c zs) (hn : 0 < n) : ∃ g, A = some ⟨g, 0, none⟩ ∧ RowB w 5 g n c zs := by
  rcases h.row_or with ⟨_, h1, _⟩ | h1
  · omega
  · exact h1
theorem OwnV.turned {W : Nat → Prop} (h : OwnV w A n c zs) (ht : Turned W w w') (hW : ∀ g, A = some ⟨g, 0, none⟩ → ¬ W g) : OwnV w' A n c zs := by
  rcases h.row_or with ⟨rfl, rfl, rfl, rfl⟩ | ⟨g, rfl, hr⟩
  · exact OwnV.nil _
  · exact OwnV.of_row (hr.turned ht (hW g rfl))
theorem OwnV.far {g : Nat} (h : OwnV w A n c zs) (hA : A ≠ some ⟨g, 0, none⟩) (i : Nat) (u : Value) : OwnV (w.setCell ⟨g, i, none⟩ u) A n c zs :=
  h.turned ((Turned.refl (· = g) w).setCell (.inl rfl) u) (fun g' e e' => hA (by rw [e, e']))
theorem OwnV.take {m : Nat} (h : OwnV w A n c zs) (hm : m ≤ n) (hs : A ≠ none) : OwnV w A m c (zs.take m) := by
  rcases h.row_or with ⟨rfl, _⟩ | ⟨g, rfl, hr⟩
  · exact absurd rfl hs
  · exact OwnV.of_row (hr.cut hm)
theorem OwnV.lt {g : Nat} (h : OwnV w A n c zs) (hA : A = some ⟨g, 0, none⟩) : g < w.heap.size := by subst hA; exact h.row.lt
theorem OwnV.max (h : OwnV w A n c zs) : n ≤ c ∧ c ≤ maxLen := by
  rcases h.row_or with ⟨_, rfl, rfl, _⟩ | ⟨g, rfl, hr⟩
  · exact ⟨Nat.le_refl _, Nat.zero_le _⟩
  · exact ⟨hr.le, hr.max⟩
theorem OwnV.blk {g L : Nat} {T : TypeId} {cs : Array Value} (h : OwnV w A n c zs) (hL : Blk w L T cs) (hT : T ≠ 5) (hA : A = some ⟨g, 0, none⟩) : g ≠ L := by
  subst hA
  obtain ⟨cs', hb, _⟩ := h.row.row
  rintro rfl
  exact hT (Blk.inj hL hb).2
end

section
variable {P : Program} {w : World} {S : TypeId} {A : Option Addr} {n c : Nat} {zs : List Int}
end
end Go.Proofs.YtglojnmcbochaaaGreatDoor

namespace Go.Proofs.YtglojnmcbochaaaGreatDoor
open Go.RowKit Go.Maps
set_option linter.unusedVariables false

theorem OwnV.one (w : World) (x : Int) : OwnV (w.alloc (.cells #[.int .u8 x] 5)) (some ⟨w.heap.size, 0, none⟩) 1 1 [x] :=
  OwnV.of_row ⟨rfl, Nat.le_refl _, by unfold maxLen; omega, _, Blk.new _ _ _, rfl, rfl⟩
theorem ba_empty {s : ByteArray} (h : s.size = 0) : s = ⟨#[]⟩ := by
  have : s.data = #[] := Array.eq_empty_of_size_eq_zero h
  cases s
  simp at this
  rw [this]
theorem ba_ne {s : ByteArray} (h : 0 < s.size) : ¬ s.toList = [] ∧ s.toList.isEmpty = false := by
  rw [ByteArray.toList_eq]
  have := ba_size s
  cases hd : s.data.toList with
  | nil => rw [hd] at this; simp at this; omega
  | cons a r => simp
theorem turned_bytes (w : World) (s : ByteArray) : Turned (fun _ => False) w (Lib.bytesWorld w 5 s) := Turned.of_below (Lib.bytesWorld_below w _ s) _
end Go.Proofs.YtglojnmcbochaaaGreatDoor

namespace Go.Proofs.YtglojnmcbochaaaGreatDoor
open Go.RowKit Go.Maps
set_option linter.unusedVariables false

def toB (zs : List Int) : List UInt8 := zs.map fun n => UInt8.ofNat n.toNat
/-- The code that these bytes begin with. -/
def getL : List Int → Option (List UInt8)
  | [] => none
  | x :: r => if r.length < x.toNat then none else if putOk (toB (r.take x.toNat)) then some (toB (r.take x.toNat)) else none
end Go.Proofs.YtglojnmcbochaaaGreatDoor

namespace Go.Proofs.YtglojnmcbochaaaGreatDoor

end Go.Proofs.YtglojnmcbochaaaGreatDoor

