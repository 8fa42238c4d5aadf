/-
  strings.SplitSeq at a separator of one byte, the byte 32: what it gives, one after the other. No condition.
-/
import Derived.Test.YtglojnmcbochaaaGreatDoorRIfn
import Derived.Test.YtglojnmcbochaaaGreatDoorRWrdP
import Derived.Test.YtglojnmcbochaaaGreatDoorRShf
import Derived.Lib.IndexLaws
namespace Go.Proofs.YtglojnmcbochaaaGreatDoor
open Go.RowKit Go.Maps Go.Shelf
set_option linter.unusedVariables false
set_option linter.unusedSimpArgs false

attribute [local go_sem] Oper.semAt_some

def ba (l : List UInt8) : ByteArray := ⟨l.toArray⟩
theorem ba_data (s : ByteArray) : ba s.data.toList = s := rfl
theorem pieces_noIndex {l : List UInt8} (h : Lib.indexByte l 32 = -1) : pieces l = [l] :=
  pieces_none fun c hc e => by
    obtain ⟨i, hi, rfl⟩ := List.mem_iff_getElem.1 hc
    exact Lib.indexByte_none h i (by rw [List.getElem?_eq_getElem hi, e])
theorem pieces_index {l : List UInt8} {k : Nat} (h : Lib.indexByte l 32 = k) : k < l.length ∧ pieces l = l.take k :: pieces (l.drop (k + 1)) := by
  obtain ⟨h1, h2⟩ := Lib.indexByte_some h
  obtain ⟨hk, he⟩ := List.getElem?_eq_some_iff.1 h1
  refine ⟨hk, ?_⟩
  conv => lhs; rw [← List.take_append_drop k l, List.drop_eq_getElem_cons hk, he]
  exact pieces_at _ fun c hc e => by
    obtain ⟨i, hi, rfl⟩ := List.mem_iff_getElem.1 hc
    rw [List.length_take] at hi
    exact h2 i (by omega) (by rw [List.getElem?_eq_getElem (by omega), ← e, List.getElem_take])
theorem ba_take (s : ByteArray) (k : Nat) : ba (s.data.toList.take k) = s.extract 0 k := by
  rw [← ba_data (s.extract 0 k), Lib.extract_data]
  simp
theorem ba_drop (s : ByteArray) (k : Nat) : (s.extract k s.size).data.toList = s.data.toList.drop k := by
  rw [Lib.extract_data, List.take_of_length_le (by rw [List.length_drop, ← Lib.size_eq]; exact Nat.le_refl _)]
/-- The three boxes that the function keeps. -/
structure SpB (w : World) (b1 b2 b3 : Nat) (s : ByteArray) : Prop where
  sep : Blk w b1 9 #[.string ⟨#[32]⟩]
  str : Blk w b2 9 #[.string s]
  save : Blk w b3 3 #[.int .i64 0]
  n12 : b1 ≠ b2
  n23 : b2 ≠ b3
open Classical in
/-- How long what is left is: the loop's measure. -/
noncomputable def strLeft (w : World) (b : Nat) : Nat := match w.cell? ⟨b, 0, none⟩ with
  | some (.string s) => s.size
  | _ => 0
theorem strLeft_eq {w : World} {b : Nat} {T : TypeId} {s : ByteArray} (h : Blk w b T #[.string s]) : strLeft w b = s.size := by
  unfold strLeft
  rw [h.cell 0]
  rfl
set_option maxRecDepth 100000 in
set_option maxHeartbeats 2000000 in
theorem split1_gives (n : Nat) (hn : 2 ≤ n) (b1 b2 b3 : Nat) (s : ByteArray) (w : World) (h : SpB w b1 b2 b3 s) (hs : s.size ≤ 9223372036854775807) :
    Gives n Tryz.prog 127 #[.pointer (some ⟨b1, 0, none⟩), .pointer (some ⟨b2, 0, none⟩), .pointer (some ⟨b3, 0, none⟩)] (fun k => k = b1 ∨ k = b2 ∨ k = b3) ((pieces s.data.toList).map ba) w := by
  intro l J W hW hrob hstart hround
  have h1n : 1 ≤ n := by omega
  have hb1 : Hid (Blk W b1 9 #[.string ⟨#[32]⟩]) := Lib.hid ((hW.block b1 h.sep.lt (fun e => e)).trans h.sep)
  have hb2 : Hid (Blk W b2 9 #[.string s]) := Lib.hid ((hW.block b2 h.str.lt (fun e => e)).trans h.str)
  have hb3 : Hid (Blk W b3 3 #[.int .i64 0]) := Lib.hid ((hW.block b3 h.save.lt (fun e => e)).trans h.save)
  obtain ⟨_, _, _, n12, n23⟩ := h
  have hJ0 := Lib.hid (hstart W.heap.size W rfl (Turned.refl _ W))
  have hround' := Lib.hid hround
  have hrob' := Lib.hid hrob
  clear hround hrob hstart hW
  obtain ⟨xs, hxs⟩ : ∃ xs, (pieces s.data.toList).map ba = xs := ⟨_, rfl⟩
  rw [hxs] at hround' ⊢
  have hc1 : W.cell? ⟨b1, 0, none⟩ = some (.string ⟨#[32]⟩) := hb1.out.cell 0
  refine callsIn_of_wp Tryz.func127 rfl trivial ?_ rfl
  simp only [Tryz.ntmps127, List.size_toArray, List.length_cons, List.length_nil, Nat.reduceAdd, Nat.reduceSub, Array.replicate_succ, Array.replicate_zero, List.push_toArray, List.append_toArray, List.nil_append, List.cons_append]
  gi_wp2
  gi_loopw [7, 8] (fun i f wr => ∃ (pre : List ByteArray) (r : ByteArray), xs = pre ++ (pieces r.data.toList).map ba ∧ r.size ≤ s.size ∧ J W.heap.size pre wr ∧ W.heap.size ≤ wr.heap.size ∧ Blk wr b1 9 #[.string ⟨#[32]⟩] ∧ Blk wr b2 9 #[.string r] ∧ Blk wr b3 3 #[.int .i64 0])
    (fun i f wr => strLeft wr b2)
  case atStart =>
    exact ⟨[], s, by rw [← hxs]; rfl, Nat.le_refl _, hJ0.out, Nat.le_refl _, hb1.out, hb2.out, hb3.out⟩
  case round =>
    obtain ⟨pre, r, hx, hr, hJ, hsz, g1, g2, g3⟩ := hrel
    have hm := strLeft_eq g2
    have q1 : wr.cell? ⟨b1, 0, none⟩ = some (.string ⟨#[32]⟩) := g1.cell 0
    have q2 : wr.cell? ⟨b2, 0, none⟩ = some (.string r) := g2.cell 0
    have q3 : wr.cell? ⟨b3, 0, none⟩ = some (.int .i64 0) := g3.cell 0
    have hcall := callsIn_wide (n := n - 1) |>.2 (Any.strings_Index_one Tryz.lays143 r 32 wr)
    rcases Int.lt_or_le (Lib.indexByte r.data.toList 32) 0 with hi | hi
    · have hi' : Lib.indexByte r.data.toList 32 = -1 := by have := Lib.indexByte_ge r.data.toList 32; omega
      rw [hi'] at hcall
      rw [pieces_noIndex hi'] at hx
      obtain ⟨fn, tmps, assign, body, hy, hR⟩ := hround'.out W.heap.size pre r [] wr (Nat.le_refl _) hsz hJ hx
      gi_wp2_with (refine ⟨trivial, ?_⟩; gi_at_call 90; refine hcall.mono ?_; rintro e w' ⟨rfl, rfl⟩)
      refine hR.mono ?_
      rintro e W3 ⟨rfl, hJ3, hk3⟩
      gi_wp2
      go_end0
      exact ⟨⟨_, rfl⟩, W.heap.size, Nat.le_refl _, Nat.le_trans hsz hk3.size, by rw [hx]; exact hJ3⟩
    · obtain ⟨k, hk⟩ := Int.eq_ofNat_of_zero_le hi
      rw [hk] at hcall
      obtain ⟨hkl, hp⟩ := pieces_index hk
      rw [hp] at hx
      have hks : k < r.size := by
        have : r.data.toList.length = r.size := (Lib.size_eq r).symm
        omega
      have hk2 : k + 1 ≤ 9223372036854775807 := by omega
      have hk3 : k + 1 ≤ r.size := hks
      have hk4 : k ≤ r.size := by omega
      rw [List.map_cons, ba_take] at hx
      obtain ⟨fn, tmps, assign, body, hy, hR⟩ := hround'.out W.heap.size pre (r.extract 0 k) _ wr (Nat.le_refl _) hsz hJ hx
      gi_wp2_with (refine ⟨trivial, ?_⟩; gi_at_call 90; refine hcall.mono ?_; rintro e w' ⟨rfl, rfl⟩)
      refine hR.mono ?_
      rintro e W3 ⟨rfl, hJ3, hkp⟩
      have f1 : Blk W3 b1 9 #[.string ⟨#[32]⟩] := (hkp.block b1 g1.lt (fun h => h (.inl (.inl rfl)))).trans g1
      have f2 : Blk W3 b2 9 #[.string r] := (hkp.block b2 g2.lt (fun h => h (.inl (.inr (.inl rfl))))).trans g2
      have f3 : Blk W3 b3 3 #[.int .i64 0] := (hkp.block b3 g3.lt (fun h => h (.inl (.inr (.inr rfl))))).trans g3
      have p1 : W3.cell? ⟨b1, 0, none⟩ = some (.string ⟨#[32]⟩) := f1.cell 0
      have p2 : W3.cell? ⟨b2, 0, none⟩ = some (.string r) := f2.cell 0
      have p4 := f2.frozen 0
      gi_wp2
      have t3 : Turned (OwnB (fun k => k = b1 ∨ k = b2 ∨ k = b3) W.heap.size W.heap.size) W3 (W3.setCell ⟨b2, 0, none⟩ (.string (r.extract (k + 1) r.size))) := (Turned.refl _ W3).setCell (.inl (.inl (.inr (.inl rfl)))) _
      have d2 : Blk (W3.setCell ⟨b2, 0, none⟩ (.string (r.extract (k + 1) r.size))) b2 9 #[.string (r.extract (k + 1) r.size)] := f2.set_ 0 _
      go_roundw
      case rel =>
        refine ⟨pre ++ [r.extract 0 k], r.extract (k + 1) r.size, ?_, ?_, hrob'.out _ _ _ _ (Nat.le_refl _) hJ3 t3, Nat.le_trans hsz (Nat.le_trans hkp.size t3.size), ?_, d2, ?_⟩
        · rw [hx, ba_drop, List.append_assoc]
          rfl
        · rw [Lib.size_eq, ba_drop, List.length_drop, ← Lib.size_eq]
          omega
        · exact (Below.heap_setCell W3 _ _ b1 (fun e => n12 e)).trans f1
        · exact (Below.heap_setCell W3 _ _ b3 (fun e => n23 e.symm)).trans f3
      case measure =>
        rw [hm, strLeft_eq d2, Lib.size_eq, ba_drop, List.length_drop, ← Lib.size_eq]
        omega
end Go.Proofs.YtglojnmcbochaaaGreatDoor

