/-
  storemanlaw20.of: a right record of some hundred bytes at most. Condition: its number is from 0 to 3999.
-/
import Derived.Test.YtfheikmjjijdpaaDoorLgQ
namespace Go.Proofs.YtfheikmjjijdpaaDoor
open Go.RowKit Go.Maps
set_option linter.unusedVariables false
set_option linter.unusedSimpArgs false

def turW (n : Nat) (zs : List Int) : Rec := ⟨0, 1 + (n : Int), 0, 0, 1, (n : Int) % 50, [(n : Int) % 256], [], zs, [], []⟩
/-- What of leaves: a right record that is small. -/
def OfP (w : World) (e : Ending) (w' : World) : Prop := ∃ R S, e = .returned (.agg (recC R S)) ∧ RecIs w' R S ∧ rightR R = true ∧ R.Ok ∧ (putR R).length ≤ 496 ∧ Turned (fun _ => False) w w'
theorem turW_right (n : Nat) (zs : List Int) (h0 : 0 < zs.length) (h1 : zs.length ≤ 180) (hn : n < 4000) : rightR (turW n zs) = true := by
  have hp : pagedB ((n : Int) % 50) = true := by unfold pagedB; simp; omega
  unfold rightR turW kindB turnB
  simp [hp]
  omega
theorem turW_len (n : Nat) (zs : List Int) (h0 : 0 < zs.length) (h1 : zs.length ≤ 180) (hn : n < 4000) : (putR (turW n zs)).length ≤ 496 := by
  rw [rput_yes (turW_right n zs h0 h1 hn), List.length_append, be_length]
  unfold bodyL restL turW turnL rowL
  simp [be_length]
  omega
theorem turW_ok (n : Nat) (zs : List Int) (hn : n < 4000) (hz : ∀ z ∈ zs, isByte z) : (turW n zs).Ok := by
  have z : I64 0 := ⟨by decide, by decide⟩
  exact ⟨z, (show I64 (1 + (n : Int)) from ⟨by omega, by omega⟩), z, z, (show isByte 1 from ⟨by decide, by decide⟩), (show I64 ((n : Int) % 50) from ⟨by omega, by omega⟩), (fun y hy => by rw [List.mem_singleton.1 hy]; exact ⟨by omega, by omega⟩), by simp [turW], hz, by simp [turW], by simp [turW]⟩
theorem com_right (k : Int) (h : 1 ≤ k) : rightR (comW k) = true := by
  unfold rightR comW kindB bareB
  simp
  omega
theorem com_few (k : Int) : (putR (comW k)).length ≤ 496 := by
  by_cases h : rightR (comW k) = true
  · rw [rput_yes h, List.length_append, be_length]
    unfold bodyL restL comW
    simp [be_length]
  · unfold putR
    rw [if_neg h]
    simp
set_option maxRecDepth 100000 in
set_option maxHeartbeats 1000000 in
theorem of_com (n : Nat) (w : World) (hn : n < 4000) (h4 : (n : Int) % 4 = 0) : Calls Tryd.prog 9 #[.int .i64 n] w (OfP w) := by
  have hni : (n : Int) < 4000 := by omega
  have h4t : (n : Int).tmod 4 = 0 := by rw [Int.tmod_eq_emod_of_nonneg (by omega)]; exact h4
  have B0 := Lib.hid (Blk.new w 39 (#[.int .i64 0, .int .i64 0, .int .i64 0, .int .i64 0, .int .u8 0, .int .i64 0, .slice none 0 0, .slice none 0 0, .slice none 0 0, .slice none 0 0, .slice none 0 0]))
  have T0 := Lib.hid ((Turned.refl (fun _ => False) w).alloc (.cells (#[.int .i64 0, .int .i64 0, .int .i64 0, .int .i64 0, .int .u8 0, .int .i64 0, .slice none 0 0, .slice none 0 0, .slice none 0 0, .slice none 0 0, .slice none 0 0]) 39))
  go_enter Tryd.func9, Tryd.ntmps9
  go_wp2_with fail
  generalize w.alloc (.cells #[.int .i64 0, .int .i64 0, .int .i64 0, .int .i64 0, .int .u8 0, .int .i64 0, .slice none 0 0, .slice none 0 0, .slice none 0 0, .slice none 0 0, .slice none 0 0] 39) = w0 at *
  obtain ⟨b, hb⟩ : ∃ b, b = w.heap.size := ⟨_, rfl⟩
  rw [← hb] at B0 ⊢
  have Hb := Lib.hid hb
  clear hb
  refine (commit20_any (1 + (n : Int)) w0).mono ?_
  rintro e w1 ⟨rfl, t1⟩
  have B1 := Lib.hid (B0.out.turned t1 (fun e => e))
  have T1 := Lib.hid (T0.out.trans (W := fun _ => False) t1 (fun _ e => e) (fun _ e => e.elim))
  clear t1 B0 T0
  unfold recC comW RecS.nil Sl.nil
  simp only
  have y0 : w1.cell? ⟨b, 0, none⟩ = some (.int .i64 0) := B1.out.cell 0
  have y1 : w1.cell? ⟨b, 1, none⟩ = some (.int .i64 0) := B1.out.cell 1
  have y2 : w1.cell? ⟨b, 2, none⟩ = some (.int .i64 0) := B1.out.cell 2
  have y3 : w1.cell? ⟨b, 3, none⟩ = some (.int .i64 0) := B1.out.cell 3
  have y4 : w1.cell? ⟨b, 4, none⟩ = some (.int .u8 0) := B1.out.cell 4
  have y5 : w1.cell? ⟨b, 5, none⟩ = some (.int .i64 0) := B1.out.cell 5
  have y6 : w1.cell? ⟨b, 6, none⟩ = some (.slice none 0 0) := B1.out.cell 6
  have y7 : w1.cell? ⟨b, 7, none⟩ = some (.slice none 0 0) := B1.out.cell 7
  have y8 : w1.cell? ⟨b, 8, none⟩ = some (.slice none 0 0) := B1.out.cell 8
  have y9 : w1.cell? ⟨b, 9, none⟩ = some (.slice none 0 0) := B1.out.cell 9
  have y10 : w1.cell? ⟨b, 10, none⟩ = some (.slice none 0 0) := B1.out.cell 10
  have yf := B1.out.frozen
  go_wp2_with fail
  obtain ⟨wz, hwz, XZ, tZ⟩ := fin11 (.int .i64 0) (.int .i64 (1 + (n : Int))) (.int .i64 0) (.int .i64 0) (.int .u8 3) (.int .i64 0) (.slice none 0 0) (.slice none 0 0) (.slice none 0 0) (.slice none 0 0) (.slice none 0 0) B1.out
  rw [hwz]
  clear hwz
  have TZ := T1.out.trans (W := fun _ => False) tZ (fun _ e => e) (fun i e => .inr (by have h1 := Hb.out; have h2 : i = b := e; omega))
  obtain ⟨e0, e1, e2, e3, e4, e5, e6, e7, e8, e9, e10⟩ := XZ.cells11
  refine bodyPost_ret (v := .agg #[.int .i64 0, .int .i64 (1 + (n : Int)), .int .i64 0, .int .i64 0, .int .u8 3, .int .i64 0, .slice none 0 0, .slice none 0 0, .slice none 0 0, .slice none 0 0, .slice none 0 0]) (by simp [results, Tryd.results9, go_sem, e0, e1, e2, e3, e4, e5, e6, e7, e8, e9, e10]) rfl ?_
  exact ⟨comW (1 + (n : Int)), RecS.nil, rfl, com_is _ _, com_right _ (by omega), comW_ok _ ⟨by omega, by omega⟩, com_few _, TZ⟩
def turTo (n m j : Nat) : List Int := (List.range m).map fun i => if i < j then (((n : Int) + (i : Int)) % 256) else 0
theorem turTo_len (n m j : Nat) : (turTo n m j).length = m := by simp [turTo]
theorem turTo_zero (n m : Nat) : turTo n m 0 = List.replicate m 0 := by
  unfold turTo
  apply List.ext_getElem
  · rw [List.length_map, List.length_range, List.length_replicate]
  · intro i h1 h2
    rw [List.getElem_map, List.getElem_replicate, if_neg (Nat.not_lt_zero _)]
theorem turTo_step (n m j : Nat) : (turTo n m j).set j (((n : Int) + (j : Int)) % 256) = turTo n m (j + 1) := by
  unfold turTo
  apply List.ext_getElem
  · rw [List.length_set, List.length_map, List.length_map]
  · intro i h1 h2
    rw [List.getElem_set]
    simp only [List.getElem_map, List.getElem_range]
    by_cases e : j = i
    · subst e; simp
    · rw [if_neg e]
      by_cases h3 : i < j
      · rw [if_pos h3, if_pos (by omega)]
      · rw [if_neg h3, if_neg (by omega)]
theorem turTo_byte (n m j : Nat) : ∀ z ∈ turTo n m j, isByte z := fun z hz => by
  obtain ⟨i, _, rfl⟩ := List.mem_map.1 hz
  unfold isByte
  split <;> omega
theorem RowB.slB {w : World} {U g n cap : Nat} {zs : List Int} (h : RowB w U g n cap zs) (hn : n ≤ 1000000) : SlB w ⟨some ⟨g, 0, none⟩, n, cap⟩ zs := ⟨h.bytS cap, h.le, h.max, by show n ≤ 140737488355328; omega⟩
theorem one_row (w : World) (x : Int) : RowB (w.alloc (.cells #[.int .u8 x] 5)) 5 w.heap.size 1 1 [x] := ⟨rfl, Nat.le_refl _, by unfold maxLen; omega, #[.int .u8 x], Blk.new w 5 #[.int .u8 x], rfl, rfl⟩
theorem tur_is {w : World} {n g h m c : Nat} {zs : List Int} (h1 : RowB w 5 g 1 1 [(n : Int) % 256]) (h2 : RowB w 5 h m c zs) (hm : m ≤ 1000) : RecIs w (turW n zs) ⟨⟨some ⟨g, 0, none⟩, 1, 1⟩, ⟨none, 0, 0⟩, ⟨some ⟨h, 0, none⟩, m, c⟩, ⟨none, 0, 0⟩, ⟨none, 0, 0⟩⟩ := by
  have hb : SlB w Sl.nil [] := ⟨⟨BytR.none_ w, fun _ => ⟨rfl, rfl⟩⟩, Nat.le_refl _, by unfold Sl.nil maxLen; simp, Nat.zero_le _⟩
  have hp : SlP w Sl.nil [] := ⟨CelR.none_ w, rfl, fun _ => ⟨rfl, rfl⟩, Nat.le_refl _, by unfold Sl.nil maxLen; simp, Nat.zero_le _⟩
  exact ⟨h1.slB (by omega), hb, h2.slB (by omega), hp, hp⟩
def OfRel (n m : Nat) (w w1 : World) (i : Value) (wr : World) : Prop := ∃ j : Nat, j ≤ m ∧ i = .int .i64 j ∧ RowB wr 5 w1.heap.size m m (turTo n m j) ∧ Turned (fun _ => False) w1 wr
set_option maxRecDepth 100000 in
set_option maxHeartbeats 2000000 in
theorem of_tur (n : Nat) (w : World) (hn : n < 4000) (h4 : (n : Int) % 4 ≠ 0) : Calls Tryd.prog 9 #[.int .i64 n] w (OfP w) := by
  obtain ⟨i0, hi, hz0, hz1, hz2⟩ := info_parts u8info
  have hI := Lib.hid (And.intro hi (And.intro hz0 (And.intro hz1 hz2)))
  clear hi hz0 hz1 hz2
  have hni : (n : Int) < 4000 := by omega
  have h4t : (n : Int).tmod 4 = (n : Int) % 4 := Int.tmod_eq_emod_of_nonneg (by omega)
  have h4f : ((n : Int) % 4 == 0) = false := by simpa using h4
  obtain ⟨m, hm⟩ : ∃ m : Nat, m = 1 + n % 180 := ⟨_, rfl⟩
  have h180 : (n : Int).tmod 180 = (m : Int) - 1 := by rw [Int.tmod_eq_emod_of_nonneg (by omega)]; omega
  have hm1 : 1 ≤ m ∧ m ≤ 180 := by omega
  have h50 : (n : Int).tmod 50 = (n : Int) % 50 := Int.tmod_eq_emod_of_nonneg (by omega)
  have H4 := Lib.hid h4
  clear h4 hm
  have B0 := Lib.hid (Blk.new w 39 (#[.int .i64 0, .int .i64 0, .int .i64 0, .int .i64 0, .int .u8 0, .int .i64 0, .slice none 0 0, .slice none 0 0, .slice none 0 0, .slice none 0 0, .slice none 0 0]))
  have T0 := Lib.hid ((Turned.refl (fun _ => False) w).alloc (.cells (#[.int .i64 0, .int .i64 0, .int .i64 0, .int .i64 0, .int .u8 0, .int .i64 0, .slice none 0 0, .slice none 0 0, .slice none 0 0, .slice none 0 0, .slice none 0 0]) 39))
  go_enter Tryd.func9, Tryd.ntmps9
  go_wp2_with (at_make; generalize w.alloc (.cells #[.int .i64 0, .int .i64 0, .int .i64 0, .int .i64 0, .int .u8 0, .int .i64 0, .slice none 0 0, .slice none 0 0, .slice none 0 0, .slice none 0 0, .slice none 0 0] 39) = w0 at *; obtain ⟨b, hb⟩ : ∃ b, b = w.heap.size := ⟨_, rfl⟩; rw [← hb] at B0 ⊢; have Hb := Lib.hid hb; clear hb; refine wpList_make_full _ rfl _ _ 33 rfl w0.heap.size 5 i0 (.int .u8 0) 1 Tryd.underlying33 hI.out.1 hI.out.2.1 hI.out.2.2.1 .i64 .i64 _ _ m rfl rfl (by omega) (by omega) (by rw [hI.out.2.2.2]; omega) (by unfold maxLen; omega) (Nat.le_refl _) ?_; intro w1 hown hg1)
  have hrow : RowB w1 5 w0.heap.size m m (turTo n m 0) := by
    rw [turTo_zero]
    rw [made_u8] at hown
    exact RowB.of_own hown
  have ht1 : Turned (fun _ => False) w0 w1 := (Turned.refl _ w0).grown hg1 (by simp)
  have B1 := Lib.hid (B0.out.turned ht1 (fun e => e))
  have HR := Lib.hid hrow
  have HT := Lib.hid ht1
  clear hown hg1 hrow ht1
  go_loopw [4] (fun i wr => OfRel n m w w0 i wr) (fun i _ => m - (intOf i).toNat)
  case atStart => exact ⟨0, by omega, rfl, HR.out, HT.out⟩
  case round =>
    obtain ⟨j, hj, rfl, hr, ht⟩ := hrel
    by_cases hlt : j < m
    · have hc := hr.cell hlt
      have hf := hr.frozen j
      have hj' : (j : Int) < (m : Int) := by omega
      have hr' := Lib.hid hr
      clear hr
      go_wp2
      go_roundw
      case rel =>
        first
        | exact ⟨j + 1, by omega, by go_num, by rw [← turTo_step]; exact hr'.out.set j _, ht.setCell (.inr (Nat.le_refl _)) _⟩
        | ((repeat apply Exists.intro); exact ⟨⟨j + 1, by omega, by go_num, by rw [← turTo_step]; exact hr'.out.set j _, ht.setCell (.inr (Nat.le_refl _)) _⟩, rfl⟩)
      case measure => simp [intOf]; omega
    · have hjm : j = m := by omega
      have hjn : ¬ (j : Int) < (m : Int) := by omega
      have hr' := Lib.hid (show RowB wr 5 w0.heap.size m m (turTo n m m) by rw [← hjm]; rw [hjm] at hr ⊢; exact hr)
      clear hr hjm hlt
      have T1 := Lib.hid (T0.out.trans (W := fun _ => False) ht (fun _ e => e) (fun _ e => e.elim))
      have TA := Lib.hid ((Turned.refl (fun _ => False) wr).alloc (.cells #[.int .u8 ((n : Int) % 256)] 5))
      have OR := Lib.hid (one_row wr ((n : Int) % 256))
      have B2 := Lib.hid ((B0.out.turned ht (fun e => e)).turned TA.out (fun e => e))
      have y0 : (wr.alloc (.cells #[.int .u8 ((n : Int) % 256)] 5)).cell? ⟨b, 0, none⟩ = some (.int .i64 0) := B2.out.cell 0
      have y1 : (wr.alloc (.cells #[.int .u8 ((n : Int) % 256)] 5)).cell? ⟨b, 1, none⟩ = some (.int .i64 0) := B2.out.cell 1
      have y2 : (wr.alloc (.cells #[.int .u8 ((n : Int) % 256)] 5)).cell? ⟨b, 2, none⟩ = some (.int .i64 0) := B2.out.cell 2
      have y3 : (wr.alloc (.cells #[.int .u8 ((n : Int) % 256)] 5)).cell? ⟨b, 3, none⟩ = some (.int .i64 0) := B2.out.cell 3
      have y4 : (wr.alloc (.cells #[.int .u8 ((n : Int) % 256)] 5)).cell? ⟨b, 4, none⟩ = some (.int .u8 0) := B2.out.cell 4
      have y5 : (wr.alloc (.cells #[.int .u8 ((n : Int) % 256)] 5)).cell? ⟨b, 5, none⟩ = some (.int .i64 0) := B2.out.cell 5
      have y6 : (wr.alloc (.cells #[.int .u8 ((n : Int) % 256)] 5)).cell? ⟨b, 6, none⟩ = some (.slice none 0 0) := B2.out.cell 6
      have y7 : (wr.alloc (.cells #[.int .u8 ((n : Int) % 256)] 5)).cell? ⟨b, 7, none⟩ = some (.slice none 0 0) := B2.out.cell 7
      have y8 : (wr.alloc (.cells #[.int .u8 ((n : Int) % 256)] 5)).cell? ⟨b, 8, none⟩ = some (.slice none 0 0) := B2.out.cell 8
      have y9 : (wr.alloc (.cells #[.int .u8 ((n : Int) % 256)] 5)).cell? ⟨b, 9, none⟩ = some (.slice none 0 0) := B2.out.cell 9
      have y10 : (wr.alloc (.cells #[.int .u8 ((n : Int) % 256)] 5)).cell? ⟨b, 10, none⟩ = some (.slice none 0 0) := B2.out.cell 10
      have yf := B2.out.frozen
      have T2 := Lib.hid (T1.out.trans (W := fun _ => False) TA.out (fun _ e => e) (fun _ e => e.elim))
      have R2 := Lib.hid (hr'.out.turned TA.out (fun e => e))
      go_wp2_with fail
      have lb0 := B0.out.lt
      have lb1 := ht.size
      obtain ⟨wz, hwz, XZ, tZ⟩ := fin11 (.int .i64 0) (.int .i64 (1 + (n : Int))) (.int .i64 0) (.int .i64 0) (.int .u8 1) (.int .i64 ((n : Int) % 50)) (.slice (some ⟨wr.heap.size, 0, none⟩) 1 1) (.slice none 0 0) (.slice (some ⟨w0.heap.size, 0, none⟩) m m) (.slice none 0 0) (.slice none 0 0) B2.out
      rw [hwz]
      clear hwz y0 y1 y2 y3 y4 y5 y6 y7 y8 y9 y10 yf
      have TZ := T2.out.trans (W := fun _ => False) tZ (fun _ e => e) (fun i e => .inr (by have h1 := Hb.out; have h2 : i = b := e; omega))
      have HI := tur_is (OR.out.turned tZ (fun e => by have h2 : wr.heap.size = b := e; omega)) (R2.out.turned tZ (fun e => by have h2 : w0.heap.size = b := e; omega)) (by omega)
      obtain ⟨e0, e1, e2, e3, e4, e5, e6, e7, e8, e9, e10⟩ := XZ.cells11
      refine bodyPost_ret (v := .agg #[.int .i64 0, .int .i64 (1 + (n : Int)), .int .i64 0, .int .i64 0, .int .u8 1, .int .i64 ((n : Int) % 50), .slice (some ⟨wr.heap.size, 0, none⟩) 1 1, .slice none 0 0, .slice (some ⟨w0.heap.size, 0, none⟩) m m, .slice none 0 0, .slice none 0 0]) (by simp [results, Tryd.results9, go_sem, e0, e1, e2, e3, e4, e5, e6, e7, e8, e9, e10]) rfl ?_
      exact ⟨turW n (turTo n m m), _, rfl, HI, turW_right n _ (by rw [turTo_len]; omega) (by rw [turTo_len]; omega) hn, turW_ok n _ hn (turTo_byte n m m), turW_len n _ (by rw [turTo_len]; omega) (by rw [turTo_len]; omega) hn, TZ⟩
theorem of_any (n : Nat) (w : World) (hn : n < 4000) : Calls Tryd.prog 9 #[.int .i64 n] w (OfP w) := by
  by_cases h4 : (n : Int) % 4 = 0
  · exact of_com n w hn h4
  · exact of_tur n w hn h4
end Go.Proofs.YtfheikmjjijdpaaDoor
