/-
  ytfheikmjjijdpaadoor: laws and walks on the road to LogKeeps, joined: LgA ApZ. Conditions stand at each theorem.
-/
import Derived.Test.YtfheikmjjijdpaaDoorQDskD
import Derived.Test.YtfheikmjjijdpaaDoorQElt
import Derived.Test.YtfheikmjjijdpaaDoorQBeP
import Derived.Test.YtfheikmjjijdpaaDoorQOwn
import Derived.Deep.QuietTactic
import Derived.BigQuiet
import Derived.IntWalk
import Derived.Lib.AppendZerosOnto
namespace Go.Proofs.YtfheikmjjijdpaaDoor
open Go.RowKit Go.Maps
set_option linter.unusedVariables false
set_option linter.unusedSimpArgs false

def logC (d : Nat) (first count turn oldest : Int) (As : Option Addr) (k cS : Nat) (Al : Option Addr) (nl cl : Nat) : Array Value := #[.pointer (some ⟨d, 0, none⟩), .int .i64 first, .int .i64 count, .int .i64 turn, .int .i64 oldest, .slice As k cS, .slice Al nl cl]
def shtC (num turn bef used : Int) (A : Option Addr) (n c : Nat) (safe : Int) (lost : Bool) : Array Value := #[.int .i64 num, .int .i64 turn, .int .i64 bef, .int .i64 used, .slice A n c, .int .i64 safe, .bool lost]
set_option maxRecDepth 100000 in
theorem lthere_yes (L d : Nat) (w : World) (h : w.cell? ⟨L, 0, none⟩ = some (.pointer (some ⟨d, 0, none⟩))) : Calls Tryd.prog 32 #[.pointer (some ⟨L, 0, none⟩)] w (RetSame (.bool true) w) := by
  go_enter Tryd.func32, Tryd.ntmps32
  go_wp2_with fail
  go_ret
  exact ⟨rfl, rfl⟩
set_option maxRecDepth 100000 in
theorem lsector_any (L : Nat) (first count num : Int) (w : World) (h1 : w.cell? ⟨L, 1, none⟩ = some (.int .i64 first)) (h2 : w.cell? ⟨L, 2, none⟩ = some (.int .i64 count)) (hf : 0 ≤ first ∧ first ≤ 10000) (hc : 1 ≤ count ∧ count ≤ 10000) (hn : 0 ≤ num ∧ num ≤ 9223372036854775807) : Calls Tryd.prog 29 #[.pointer (some ⟨L, 0, none⟩), .int .i64 num] w (RetNew (.int .i64 (first + num % count)) w) := by
  go_enter Tryd.func29, Tryd.ntmps29
  have hm0 := Int.emod_nonneg num (show count ≠ 0 by omega)
  have hm1 := Int.emod_lt_of_pos num (show 0 < count by omega)
  have htm : num.tmod count = num % count := Int.tmod_eq_emod_of_nonneg hn.1
  have hc0 : count ≠ 0 := by omega
  have hc1 : (1 : Int) ≤ count := hc.1
  go_wp2_with fail
  go_quiet (fail)
  go_wp2_with fail
  go_ret
  exact ⟨rfl, (Turned.refl (fun _ => False) w).drewN nq⟩
set_option maxRecDepth 100000 in
theorem llsn_any (g : Nat) (num p : Int) (w : World) (h : w.cell? ⟨g, 0, none⟩ = some (.int .i64 num)) (hn : 0 ≤ num ∧ num ≤ 9007199254740992) (hp : 0 ≤ p ∧ p ≤ 100000) : Calls Tryd.prog 35 #[.pointer (some ⟨g, 0, none⟩), .int .i64 p] w (RetSame (.int .i64 (num * 512 + p + 1)) w) := by
  go_enter Tryd.func35, Tryd.ntmps35
  have h0 := hn.1
  have h1 := hn.2
  have h2 := hp.1
  have h3 := hp.2
  go_wp2_with fail
  go_ret
  exact ⟨ret_int rfl, rfl⟩
set_option maxRecDepth 100000 in
theorem lmore_any (L : Nat) (count : Int) (As : Option Addr) (k cS : Nat) (w : World) (h2 : w.cell? ⟨L, 2, none⟩ = some (.int .i64 count)) (h5 : w.cell? ⟨L, 5, none⟩ = some (.slice As k cS)) (hc : 1 ≤ count ∧ count ≤ 10000) (hk : k ≤ 10000) : Calls Tryd.prog 34 #[.pointer (some ⟨L, 0, none⟩)] w (RetNew (.int .i64 (count - 1 - (k : Int))) w) := by
  go_enter Tryd.func34, Tryd.ntmps34
  have hc0 := hc.1
  have hc1 := hc.2
  have hki : (k : Int) ≤ 10000 := by omega
  go_wp2_with fail
  go_quiet (fail)
  go_wp2_with fail
  go_ret
  exact ⟨ret_int rfl, (Turned.refl (fun _ => False) w).drewN nq⟩
set_option maxRecDepth 100000 in
theorem llast_any (L S g : Nat) (k cS : Nat) (w : World) (h5 : w.cell? ⟨L, 5, none⟩ = some (.slice (some ⟨S, 0, none⟩) (k + 1) cS)) (hg : w.cell? ⟨S, k, none⟩ = some (.pointer (some ⟨g, 0, none⟩))) (hk : k ≤ 10000) : Calls Tryd.prog 33 #[.pointer (some ⟨L, 0, none⟩)] w (RetNew (.pointer (some ⟨g, 0, none⟩)) w) := by
  go_enter Tryd.func33, Tryd.ntmps33
  have hki : (k : Int) ≤ 10000 := by omega
  go_wp2_with fail
  go_quiet (fail)
  go_wp2_with fail
  go_ret
  exact ⟨rfl, (Turned.refl (fun _ => False) w).drewN nq⟩
/-- What is read of a log: its disk, its sheets, the last of them. -/
structure LogR (w : World) (L d S g : Nat) (count : Int) (k cS : Nat) (num : Int) (A : Option Addr) (n c : Nat) : Prop where
  d0 : w.cell? ⟨L, 0, none⟩ = some (.pointer (some ⟨d, 0, none⟩))
  cnt : w.cell? ⟨L, 2, none⟩ = some (.int .i64 count)
  shs : w.cell? ⟨L, 5, none⟩ = some (.slice (some ⟨S, 0, none⟩) (k + 1) cS)
  lst : w.cell? ⟨S, k, none⟩ = some (.pointer (some ⟨g, 0, none⟩))
  nm : w.cell? ⟨g, 0, none⟩ = some (.int .i64 num)
  bod : w.cell? ⟨g, 4, none⟩ = some (.slice A n c)
  cB : 1 ≤ count ∧ count ≤ 10000
  kB : k < 10000
  nB : 0 ≤ num ∧ num ≤ 9007199254740992
  bB : n ≤ 496
theorem LogR.fresh {w w' : World} {L d S g k cS n c : Nat} {count num : Int} {A : Option Addr} (h : LogR w L d S g count k cS num A n c) (ht : Turned (fun _ => False) w w') : LogR w' L d S g count k cS num A n c :=
  ⟨cell_turned ht h.d0 (fun e => e), cell_turned ht h.cnt (fun e => e), cell_turned ht h.shs (fun e => e), cell_turned ht h.lst (fun e => e), cell_turned ht h.nm (fun e => e), cell_turned ht h.bod (fun e => e), h.cB, h.kB, h.nB, h.bB⟩
set_option maxRecDepth 100000 in
theorem lend_any (L d S g k cS n c : Nat) (count num : Int) (A : Option Addr) (w : World) (h : LogR w L d S g count k cS num A n c) : Calls Tryd.prog 25 #[.pointer (some ⟨L, 0, none⟩)] w (RetNew (.int .i64 (num * 512 + (n : Int) + 1)) w) := by
  go_enter Tryd.func25, Tryd.ntmps25
  have H := Lib.hid h
  have hn := h.bB
  clear h
  go_wp2_with fail
  refine (lthere_yes L d w H.out.d0).mono ?_
  rintro e w1 ⟨rfl, rfl⟩
  go_wp2_with fail
  refine (llast_any L S g k cS w H.out.shs H.out.lst (by have := H.out.kB; omega)).mono ?_
  rintro e w1 ⟨rfl, t1⟩
  have H1 := Lib.hid (H.out.fresh t1)
  have x := H1.out.bod
  have T1 := Lib.hid t1
  clear t1
  go_wp2_with fail
  refine (llsn_any g num n w1 H1.out.nm H1.out.nB (by omega)).mono ?_
  rintro e w2 ⟨rfl, rfl⟩
  go_wp2_with fail
  go_ret
  exact ⟨rfl, T1.out⟩
set_option maxRecDepth 100000 in
theorem lroom_any (L d S g k cS n c : Nat) (count num : Int) (A : Option Addr) (w : World) (h : LogR w L d S g count k cS num A n c) : Calls Tryd.prog 11 #[.pointer (some ⟨L, 0, none⟩)] w (RetNew (.int .i64 (max (count - 1 - ((k + 1 : Nat) : Int) - 1) 0 * 248)) w) := by
  go_enter Tryd.func11, Tryd.ntmps11
  have H := Lib.hid h
  have hc := h.cB
  have hk := h.kB
  clear h
  go_wp2_with fail
  refine (lthere_yes L d w H.out.d0).mono ?_
  rintro e w1 ⟨rfl, rfl⟩
  go_wp2_with fail
  refine (lmore_any L count _ (k + 1) cS w H.out.cnt H.out.shs H.out.cB (by omega)).mono ?_
  rintro e w1 ⟨rfl, t1⟩
  have T1 := Lib.hid t1
  clear t1
  obtain ⟨m, hm⟩ : ∃ m : Int, m = count - 1 - ((k + 1 : Nat) : Int) := ⟨_, rfl⟩
  have hm0 : -10001 ≤ m := by omega
  have hm1 : m ≤ 10000 := by omega
  rw [← hm]
  have HM := Lib.hid hm
  clear hm
  by_cases hm2 : 1 ≤ m
  · have e1 : (0 : Int) ≤ m - 1 := by omega
    have e2 : max (m - 1) 0 = m - 1 := by omega
    have e3 : ((m - 1) * 496).tdiv 2 = (m - 1) * 248 := by rw [Int.tdiv_eq_ediv_of_nonneg (by omega)]; omega
    have e4 : (m - 1) * 496 / 2 = (m - 1) * 248 := by omega
    go_wp2_with fail
    go_ret
    refine ⟨ret_int ?_, T1.out⟩
    have h1 := HM.out
    omega
  · have e1 : m - 1 < 0 := by omega
    have e2 : max (m - 1) 0 = 0 := by omega
    go_wp2_with fail
    go_ret
    refine ⟨ret_int ?_, T1.out⟩
    have h1 := HM.out
    omega
set_option maxRecDepth 100000 in
set_option maxHeartbeats 1000000 in
theorem lget_any (A : Option Addr) (n c p k : Nat) (zs : List Int) (w : World) (h : BytR w A n zs) (hb : ∀ z ∈ zs, isByte z) (hk1 : 1 ≤ k) (hk : k ≤ 8) (hp : p + k ≤ n) (hnc : n ≤ c) (hc : n ≤ 100000) :
    Calls Tryd.prog 54 #[.slice A n c, .int .i64 p, .int .i64 k] w (RetSame (.int .i64 (decN ((zs.drop p).take k))) w) := by
  have hl := Lib.hid h.len
  obtain ⟨b, off, rfl, hcell⟩ := h.cell (by omega)
  have hcl := Lib.hid hcell
  have hbb := Lib.hid hb
  clear h hcell hb
  have hpi : (p : Int) ≤ 100000 := by omega
  have hki : (k : Int) ≤ 8 := by omega
  have hpk : (p : Int) + (k : Int) ≤ (c : Int) := by omega
  have hpe : ((p + k : Nat) : Int) = (p : Int) + (k : Int) := by omega
  have hle : p ≤ p + k := by omega
  have hpc : p + k ≤ c := by omega
  go_enter Tryd.func54, Tryd.ntmps54
  go_wp2_with fail
  go_loop [7, 17] (fun v i => ∃ j : Nat, j ≤ k ∧ i = .int .i64 j ∧ v = .int .i64 (decN (((zs.drop p).take k).take j))) (fun _ i => k - (intOf i).toNat)
  case atStart => exact ⟨0, Nat.zero_le _, rfl, rfl⟩
  case round =>
    obtain ⟨j, hj, rfl, rfl⟩ := hrel
    have hlt2 : ((zs.drop p).take k).length = k := by rw [List.length_take, List.length_drop, hl.out]; omega
    by_cases hlt : j < k
    · have hji : (j : Int) < (k : Int) := by omega
      have q1 := hcl.out (p + j) (by omega)
      have hge : ((zs.drop p).take k).getD j 0 = zs.getD (p + j) 0 := by
        rw [List.getD_eq_getElem?_getD, List.getD_eq_getElem?_getD, List.getElem?_take, if_pos hlt, List.getElem?_drop]
      rw [← hge, ← Nat.add_assoc] at q1
      have hcb : isByte (((zs.drop p).take k).getD j 0) := by
        rw [hge, List.getD_eq_getElem?_getD, List.getElem?_eq_getElem (by rw [hl.out]; omega)]
        exact hbb.out _ (List.getElem_mem _)
      unfold isByte at hcb
      have hsn : ((zs.drop p).take k).take (j + 1) = ((zs.drop p).take k).take j ++ [((zs.drop p).take k).getD j 0] := by
        rw [List.take_succ_eq_append_getElem (by rw [hlt2]; exact hlt)]
        simp only [List.getD_eq_getElem?_getD]
        rw [List.getElem?_eq_getElem (by rw [hlt2]; exact hlt)]
        rfl
      have hst := Lib.hid (show decN (((zs.drop p).take k).take (j + 1)) = IntKind.i64.wrap (decN (((zs.drop p).take k).take j) * 256 + ((zs.drop p).take k).getD j 0) by rw [hsn, decN_snoc])
      clear hsn hge hlt2
      generalize decN (((zs.drop p).take k).take j) = v at *
      generalize ((zs.drop p).take k).getD j 0 = x at *
      have hor := i64_or_low v x hcb.1 (by omega)
      rw [show IntKind.i64.wrap (v * 256) = wrap64 (v * 256) by rw [IntKind.wrap_i64]; unfold wrap64; omega] at hor
      have hor' := Lib.hid hor
      clear hor hpe
      go_wp2_with fail
      go_round
      case rel =>
        refine ⟨j + 1, hlt, by go_num, ?_⟩
        rw [hst.out, ← hor'.out]
      case measure => simp [intOf]; omega
    · obtain rfl : j = k := by omega
      have hge : (j : Int) ≤ (j : Int) := Int.le_refl _
      have hfin := Lib.hid (List.take_of_length_le (Nat.le_of_eq hlt2))
      clear hlt2 hpe
      go_wp2_with fail
      go_ret
      refine ⟨ret_int ?_, rfl⟩
      rw [hfin.out]
end Go.Proofs.YtfheikmjjijdpaaDoor

namespace Go.Proofs.YtfheikmjjijdpaaDoor
open Go.RowKit Go.Maps

theorem zeroCells_u8 (k : Nat) : (Builtin.zeroCells (Value.int .u8 0).cells k).toList = u8s (List.replicate k 0) := by
  unfold Builtin.zeroCells u8s
  apply List.ext_getElem
  · simp [Value.cells]
  · intro i h1 h2
    simp [Value.cells, Nat.mod_one]
/-- n bytes at the head of block g that can be appended to: where there is room, the row is owned. -/
structure AppB (w : World) (U g n cap : Nat) (xs : List Int) : Prop where
  len : xs.length = n
  le : n ≤ cap
  max : cap ≤ maxLen
  lt : g < w.heap.size
  cell : ∀ j, j < n → w.cell? ⟨g, j, none⟩ = some (.int .u8 (xs.getD j 0))
  own : n < cap → RowB w U g n cap xs
section
variable {P : Program} {w w' : World} {S U g n cap : Nat} {xs : List Int}
theorem RowB.app (h : RowB w U g n cap xs) : AppB w U g n cap xs := ⟨h.len, h.le, h.max, h.lt, fun _ hj => h.cell hj, fun _ => h⟩
theorem AppB.turned {W : Nat → Prop} (h : AppB w U g n cap xs) (ht : Turned W w w') (hg : ¬ W g) : AppB w' U g n cap xs :=
  ⟨h.len, h.le, h.max, Nat.lt_of_lt_of_le h.lt ht.size, fun j hj => cell_turned ht (h.cell j hj) hg, fun hc => (h.own hc).turned ht hg⟩
theorem AppB.bytR (h : AppB w U g n cap xs) : BytR w (some ⟨g, 0, none⟩) n xs :=
  ⟨h.len, by have := h.le; have := h.max; unfold maxLen at this; omega, fun _ => ⟨g, 0, rfl, fun j hj => by rw [Nat.zero_add]; exact h.cell j hj⟩⟩
theorem AppB.news (h : AppB w U g n cap xs) : ∀ j u, (u8s xs)[j]? = some u → w.cell? ((⟨g, 0, none⟩ : Addr).add j) = some u := by
  intro j u hu
  have hj : j < n := by
    have := (List.getElem?_eq_some_iff.1 hu).1
    rw [u8s_length, h.len] at this
    exact this
  rw [Addr.add_mid, Nat.zero_add, h.cell j hj, ← hu]
  have := h.len
  simp only [u8s, List.getElem?_map, List.getD_eq_getElem?_getD]
  rw [List.getElem?_eq_getElem (by omega)]
  rfl
end

theorem run_bytes_zeros {P : Program} {w : World} {S U tn ty : TypeId} {kn : IntKind} (B : BytT P S U) (htn : P.underlying tn = some (.int kn)) {g n cap : Nat} {xs : List Int} (hr : AppB w U g n cap xs) (k : Nat) (h0 : 0 < k) (hb : n + k ≤ 140737488355328) :
    ∃ g' cap' w', (Builtin.append_ #[S, tn] ty #[.slice (some ⟨g, 0, none⟩) n cap, .int .i64 k]).run P w = .ok (.slice (some ⟨g', 0, none⟩) (n + k) cap') w' ∧ RowB w' U g' (n + k) cap' (xs ++ List.replicate k 0) ∧ w.grownBy w' (some g) ∧ (g' = g ∨ g' = w.heap.size) := by
  obtain ⟨i, hi, hz0, hz1, hz2⟩ := info_parts B.info
  have hl := hr.len
  have hle := hr.le
  have hmx := hr.max
  have hlen : (xs ++ List.replicate k (0 : Int)).length = n + k := by simp [hl]
  have hu : u8s (xs ++ List.replicate k 0) = u8s xs ++ u8s (List.replicate k 0) := by simp [u8s]
  by_cases hroom : n + k ≤ cap
  · obtain ⟨cs, hbk, hcs, htk⟩ := (hr.own (by omega)).row
    have hst := run_storeCells_at P g n U (u8s (List.replicate k 0)) 0 cs w hbk (by simp [u8s, hcs]; omega) (u8s_one _)
    simp only [Nat.add_zero] at hst
    have hneg : ¬ ((k : Int) < 0) := by omega
    have hw : IntKind.i64.wrap (k : Int) = k := by rw [IntKind.wrap_i64]; omega
    have h48i : ¬ (281474976710656 < (k : Int)) := by omega
    have hk0 : ¬ k = 0 := by omega
    generalize hcc : (cs.toList.take n ++ u8s (List.replicate k 0) ++ cs.toList.drop (n + (u8s (List.replicate k 0)).length)).toArray = cc at hst
    refine ⟨g, cap, w.setRow g cc, ?_, ⟨hlen, hroom, hmx, cc, setRow_heap w g cs cc U (0, 0) hbk, ?_, ?_⟩, ⟨rfl, rfl, rfl, by simp, fun j _ hj => setRow_other w g j _ (fun e => hj (by rw [e]))⟩, .inl rfl⟩
    · simp [Builtin.append_, run_underlying B.und, run_underlying htn, sizeOf, typeInfo, zeroValue, hi, hz0, hz1, hz2, asInt, asIntOf, hw, hneg, h48i, hk0, hroom, zeroCells_u8, Addr.add_lit, hst]
    · rw [← hcc]; simp [u8s, hcs]; omega
    · rw [← hcc, htk, hu]
      exact List.take_left' (by simp [u8s, hl])
  · have hold : (Builtin.firstCells i.size n (.slice (some ⟨g, 0, none⟩) n cap)).run P w.drew = .ok (u8s xs).toArray w.drew := by
      have := run_firstCells_some (P := P) w.drew i.size n ⟨g, 0, none⟩ n cap (u8s xs) (by rw [u8s_length, hl, hz1, Nat.mul_one]) (hr.turned (Turned.refl (fun _ => False) w).drew (fun e => e)).news
      exact this
    have hrun := Lib.run_append_grow_zeros (P := P) w S tn ty U i (.int .u8 0) .i64 kn B.und htn hi hz0 (some ⟨g, 0, none⟩) n cap (u8s xs) hold k h0 (by omega) (by omega) (by omega) (by rw [hz2]; omega) (by rw [hz2]; exact growslice_fits (by omega) (by omega))
    have hge := grownCap_ge w (n + k) cap U
    have hcm : grownCap w (n + k) cap U ≤ maxLen := grownCap_le_maxLen w (n + k) cap U (by unfold maxLen; omega)
    refine ⟨_, _, _, hrun, ⟨hlen, hge, hcm, _, heap_alloc_new w.drew _, ?_, ?_⟩, ⟨rfl, rfl, rfl, by simp, fun j hj _ => Below.heap_alloc w.drew _ j hj⟩, .inr rfl⟩
    · simp only [Array.size_append, List.size_toArray, size_zeroCells, u8s_length, hl, Value.cells]
      simp
      omega
    · simp only [Array.toList_append, zeroCells_u8]
      rw [hu, List.take_left' (by simp [u8s, hl])]
theorem wpList_bytes_zeros {P : Program} {w : World} {S U tn : TypeId} {kn : IntKind} {ops : Array Oper} {rest : List Oper} {o : Oper} {a : Act} {Q : Exit → Act → World → Prop} (B : BytT P S U) (htn : P.underlying tn = some (.int kn)) (hgd : o.guard = none) (s x : Operand)
    (ho : o.op = .call { callee := .builtin .append, args := #[s, x], argTypes := #[S, tn] }) {g n cap : Nat} {xs : List Int} (hr : AppB w U g n cap xs) (k : Nat) (h0 : 0 < k) (hb : n + k ≤ 140737488355328) (hs : a.eval s = .slice (some ⟨g, 0, none⟩) n cap) (hx : a.eval x = .int .i64 k)
    (h : ∀ g' cap' w', RowB w' U g' (n + k) cap' (xs ++ List.replicate k 0) → w.grownBy w' (some g) → (g' = g ∨ g' = w.heap.size) → wpList P ops Q rest (a.put o.dst (.slice (some ⟨g', 0, none⟩) (n + k) cap')) w') : wpList P ops Q (o :: rest) a w := by
  obtain ⟨g', cap', w', hrun, h1, h2, h3⟩ := run_bytes_zeros (ty := o.type) B htn hr k h0 hb
  exact Lib.wpList_append_run w hgd s x S tn ho _ _ hs hx _ _ hrun (h g' cap' w' h1 h2 h3)
end Go.Proofs.YtfheikmjjijdpaaDoor

