/-
  ytohajofkflibjaagreatdoor: laws and walks on the road to RecordNumbers, joined: RecO BnA. Conditions stand at each theorem.
-/
import Derived.Test.YtohajofkflibjaaGreatDoorRecM
import Derived.Test.YtohajofkflibjaaGreatDoorAp4
import Derived.Test.YtohajofkflibjaaGreatDoorRecH
import Derived.Deep.OwnRows
import Derived.Lib.SlBytesConst
import Derived.RegionTactic
namespace Go.Proofs.YtohajofkflibjaaGreatDoor
open Go.RowKit Go.Maps
set_option linter.unusedVariables false
set_option linter.unusedSimpArgs false

theorem app_bytes {a b : List Int} (ha : ∀ z ∈ a, isByte z) (hb : ∀ z ∈ b, isByte z) : ∀ z ∈ a ++ b, isByte z := by
  intro z hz
  rcases List.mem_append.1 hz with h | h
  · exact ha z h
  · exact hb z h
theorem rowL_bytes {l : List Int} (h : ∀ z ∈ l, isByte z) (hl : l.length ≤ 255) : ∀ z ∈ rowL l, isByte z := by
  intro z hz
  rcases List.mem_cons.1 hz with rfl | h1
  · unfold isByte; omega
  · exact h z h1
theorem pairs_bytes (a : Nat) (l : List (Int × Int)) : ∀ z ∈ l.flatMap (pairL a), isByte z := by
  intro z hz
  obtain ⟨p, _, hp⟩ := List.mem_flatMap.1 hz
  exact app_bytes (be_byte _ _) (be_byte _ _) z hp
theorem putR_bytes {R : Rec} (hr : rightR R = true) (hk : R.Ok) : ∀ z ∈ putR R, isByte z := by
  rw [rput_yes hr]
  refine app_bytes (be_byte _ _) ?_
  have hkk := hk.kind
  have h1 := hk.key
  have h2 := hk.old
  have h3 := hk.new
  have hT : turnB R = true → ∀ z ∈ turnL R, isByte z := fun ht => by
    have hl := turnB_len ht
    exact app_bytes (rowL_bytes h1 (by omega)) (app_bytes (rowL_bytes h2 (by omega)) (rowL_bytes h3 (by omega)))
  intro z hz
  refine (List.mem_cons.1 hz).elim (fun e => by rw [e]; exact hkk) (fun hz => ?_)
  unfold restL at hz
  unfold rightR at hr
  by_cases h5 : R.kind = 5
  · rw [if_pos h5] at hz
    exact app_bytes (app_bytes (be_byte _ _) (pairs_bytes _ _)) (app_bytes (be_byte _ _) (pairs_bytes _ _)) z hz
  · rw [if_neg h5] at hr hz
    simp only [Bool.and_eq_true, decide_eq_true_eq] at hr
    have hkd := hr.2
    unfold kindB at hkd
    by_cases k1 : R.kind = 1
    · rw [if_pos k1] at hkd hz
      simp only [Bool.and_eq_true] at hkd
      exact app_bytes (be_byte _ _) (app_bytes (be_byte _ _) (app_bytes (be_byte _ _) (hT hkd.2))) z hz
    · rw [if_neg k1] at hkd hz
      by_cases k2 : R.kind = 2
      · rw [if_pos k2] at hkd hz
        simp only [Bool.and_eq_true] at hkd
        exact app_bytes (be_byte _ _) (app_bytes (be_byte _ _) (app_bytes (be_byte _ _) (app_bytes (be_byte _ _) (hT hkd.2)))) z hz
      · rw [if_neg k2] at hz
        by_cases k6 : R.kind = 6
        · rw [if_pos k6] at hz
          exact app_bytes (be_byte _ _) (app_bytes (be_byte _ _) (app_bytes (be_byte _ _) (be_byte _ _))) z hz
        · rw [if_neg k6, List.append_nil] at hz
          exact app_bytes (be_byte _ _) (be_byte _ _) z hz
end Go.Proofs.YtohajofkflibjaaGreatDoor

namespace Go.Proofs.YtohajofkflibjaaGreatDoor
open Go.RowKit Go.Maps
set_option linter.unusedVariables false
set_option linter.unusedSimpArgs false

def BentP (w : World) (e : Ending) (w' : World) : Prop := ∃ R S, e = .returned (.agg (recC R S)) ∧ RecIs w' R S ∧ R.Ok ∧ Turned (fun _ => False) w w'
theorem bent_fin {w w' : World} {e : Ending} {R : Rec} {S : RecS} (R' : Rec) (S' : RecS) (H : RecIs w R S) (ht : Turned (fun _ => False) w w') (he : e = .returned (.agg (recC R' S'))) (hr : RecIs w' R S → RecIs w' R' S') (hk : R'.Ok) : BentP w e w' := ⟨R', S', he, hr (H.fresh ht), hk, ht⟩
theorem run201 (w : World) : (Instr.makeSlice 23 (.int .i64 201) (.int .i64 201)).run Tryz.prog w = .ok (.slice (some ⟨w.heap.size, 0, none⟩) 201 201) (w.alloc (.cells (madeCells #[.int .u8 0] 201) 5)) := run_make_row' (P := Tryz.prog) 23 5 (.int .u8 0) 1 Tryz.underlying23 u8info rfl .i64 .i64 201 (by omega) (by omega) w
theorem run180 (w : World) : (Instr.makeSlice 23 (.int .i64 180) (.int .i64 180)).run Tryz.prog w = .ok (.slice (some ⟨w.heap.size, 0, none⟩) 180 180) (w.alloc (.cells (madeCells #[.int .u8 0] 180) 5)) := run_make_row' (P := Tryz.prog) 23 5 (.int .u8 0) 1 Tryz.underlying23 u8info rfl .i64 .i64 180 (by omega) (by omega) w
theorem run41 (w : World) : (Instr.makeSlice 23 (.int .i64 41) (.int .i64 41)).run Tryz.prog w = .ok (.slice (some ⟨w.heap.size, 0, none⟩) 41 41) (w.alloc (.cells (madeCells #[.int .u8 0] 41) 5)) := run_make_row' (P := Tryz.prog) 23 5 (.int .u8 0) 1 Tryz.underlying23 u8info rfl .i64 .i64 41 (by omega) (by omega) w
theorem run40 (w : World) : (Instr.makeSlice 23 (.int .i64 40) (.int .i64 40)).run Tryz.prog w = .ok (.slice (some ⟨w.heap.size, 0, none⟩) 40 40) (w.alloc (.cells (madeCells #[.int .u8 0] 40) 5)) := run_make_row' (P := Tryz.prog) 23 5 (.int .u8 0) 1 Tryz.underlying23 u8info rfl .i64 .i64 40 (by omega) (by omega) w
theorem run39 (w : World) : (Instr.makeSlice 23 (.int .i64 39) (.int .i64 39)).run Tryz.prog w = .ok (.slice (some ⟨w.heap.size, 0, none⟩) 39 39) (w.alloc (.cells (madeCells #[.int .u8 0] 39) 5)) := run_make_row' (P := Tryz.prog) 23 5 (.int .u8 0) 1 Tryz.underlying23 u8info rfl .i64 .i64 39 (by omega) (by omega) w
theorem run181 (w : World) : (Instr.makeSlice 23 (.int .i64 181) (.int .i64 181)).run Tryz.prog w = .ok (.slice (some ⟨w.heap.size, 0, none⟩) 181 181) (w.alloc (.cells (madeCells #[.int .u8 0] 181) 5)) := run_make_row' (P := Tryz.prog) 23 5 (.int .u8 0) 1 Tryz.underlying23 u8info rfl .i64 .i64 181 (by omega) (by omega) w
theorem run182 (w : World) : (Instr.makeSlice 23 (.int .i64 182) (.int .i64 182)).run Tryz.prog w = .ok (.slice (some ⟨w.heap.size, 0, none⟩) 182 182) (w.alloc (.cells (madeCells #[.int .u8 0] 182) 5)) := run_make_row' (P := Tryz.prog) 23 5 (.int .u8 0) 1 Tryz.underlying23 u8info rfl .i64 .i64 182 (by omega) (by omega) w
theorem made_row {w : World} {g n : Nat} (hg : w.heap.size = g) (hn : n ≤ maxLen) : RowB (w.alloc (.cells (madeCells #[.int .u8 0] n) 5)) 5 g n n (List.replicate n 0) := by
  refine ⟨by simp, Nat.le_refl _, hn, _, Blk.new_at _ _ _ hg, by simp [madeCells], ?_⟩
  have h := made_u8 n
  rw [Nat.mul_one] at h
  rw [show (madeCells #[.int .u8 0] n).toList = u8s (List.replicate n 0) from h]
  exact List.take_of_length_le (by rw [u8s_length]; simp)
theorem RowB.slB0 {w : World} {g n : Nat} {zs : List Int} (h : RowB w 5 g n n zs) (hn : n ≤ 1000000) : SlB w ⟨some ⟨g, 0, none⟩, n, n⟩ zs := ⟨h.bytS n, Nat.le_refl _, h.max, Nat.le_trans hn (by decide)⟩
theorem RowE.slP0 {w : World} {T g n : Nat} {l : List (Int × Int)} (h : RowE w T 2 g n n (pairC l)) (hn : n ≤ 1000000) : SlP w ⟨some ⟨g, 0, none⟩, n, n⟩ l := ⟨h.celR, by have := h.len; rw [pairC_length] at this; show l.length = n; omega, fun e => (by cases e), Nat.le_refl _, h.max, Nat.le_trans hn (by decide)⟩
theorem SlB.none0 (w : World) : SlB w ⟨none, 0, 0⟩ [] := ⟨⟨BytR.none_ w, fun _ => ⟨rfl, rfl⟩⟩, Nat.le_refl 0, Nat.zero_le _, Nat.zero_le _⟩
theorem reps_byte (n : Nat) : ∀ z ∈ List.replicate n (0 : Int), isByte z := fun z hz => by
  rw [(List.mem_replicate.1 hz).2]; exact ⟨by decide, by decide⟩
theorem made_pairs {w : World} {T g n : Nat} (hg : w.heap.size = g) (hn : n ≤ maxLen) : RowE (w.alloc (.cells (madeCells #[.int .i64 0, .int .i64 0] (n * 2)) T)) T 2 g n n (pairC (List.replicate n (0, 0))) := by
  have hp : (madeCells #[Value.int .i64 0, Value.int .i64 0] (n * 2)).toList = pairC (List.replicate n (0, 0)) := by
    apply List.ext_getElem
    · simp [madeCells, pairC_length]
    · intro i h1 h2
      rw [pairC_length, List.length_replicate] at h2
      have : (pairC (List.replicate n (0, 0)))[i]? = some (.int .i64 0) := by
        have hd := Nat.div_add_mod i 2
        rcases (show i % 2 = 0 ∨ i % 2 = 1 by omega) with e | e
        · have := pairC_fst (List.replicate n ((0 : Int), (0 : Int))) (i / 2) (by simp; omega)
          rw [show i / 2 * 2 = i by omega] at this
          rw [this]
          simp [fstAt, List.getD_eq_getElem?_getD, List.getElem?_replicate, show i / 2 < n by omega]
        · have := pairC_snd (List.replicate n ((0 : Int), (0 : Int))) (i / 2) (by simp; omega)
          rw [show i / 2 * 2 + 1 = i by omega] at this
          rw [this]
          simp [sndAt, List.getD_eq_getElem?_getD, List.getElem?_replicate, show i / 2 < n by omega]
      rw [List.getElem?_eq_getElem (by rw [pairC_length, List.length_replicate]; exact h2)] at this
      injection this with this
      rw [this]
      have hd := Nat.div_add_mod i 2
      rcases (show i % 2 = 0 ∨ i % 2 = 1 by omega) with e | e <;> simp [madeCells, e]
  refine ⟨by rw [pairC_length]; simp, Nat.le_refl _, hn, _, Blk.new_at _ _ _ hg, by simp [madeCells], ?_⟩
  rw [hp]
  exact List.take_of_length_le (by rw [pairC_length]; simp)
theorem made33 (w : World) : (Instr.makeSlice 26 (.int .i64 33) (.int .i64 33)).run Tryz.prog w = .ok (.slice (some ⟨w.heap.size, 0, none⟩) 33 33) (w.alloc (.cells (madeCells #[.int .i64 0, .int .i64 0] (33 * 2)) 52)) := by
  obtain ⟨i0, hi, hz0, hz1, hz2⟩ := info_parts dirtyT.info
  have h := run_make (P := Tryz.prog) w 26 52 i0 _ Tryz.underlying26 hi hz0 .i64 .i64 33 33 (by decide) (by decide) (by rw [hz2]; decide) (by decide)
  rw [hz1] at h
  exact h
theorem key_sl {w : World} {g : Nat} (hg : w.heap.size = g) : SlB (w.alloc (.cells #[.int .u8 107] 5 (1, 2))) ⟨some ⟨g, 0, none⟩, 1, 1⟩ [107] := by
  refine ⟨⟨⟨rfl, (by show (1 : Nat) ≤ 9223372036854775807; decide), fun _ => ⟨g, 0, rfl, fun j hj => ?_⟩⟩, fun e => (by cases e)⟩, Nat.le_refl _, (by show (1 : Nat) ≤ maxLen; decide), (by show (1 : Nat) ≤ 140737488355328; decide)⟩
  obtain rfl : j = 0 := by have : j < 1 := hj; omega
  subst hg
  exact cell_of_row _ _ 0 _ _ _ (heap_alloc_new w _)
end Go.Proofs.YtohajofkflibjaaGreatDoor

