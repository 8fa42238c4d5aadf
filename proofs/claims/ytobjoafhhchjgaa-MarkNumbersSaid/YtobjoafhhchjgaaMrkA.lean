/-
  Masters: their bytes: append of noughts, sector, bytes.
-/
import Derived.Test.YtobjoafhhchjgaaAll
import Derived.Lib.AppendZerosOnto
import Derived.Lib.AppendStr
import Derived.Lib.SlBytesConst
namespace Go.Proofs.Ytobjoafhhchjgaa
open Go.RowKit Go.Maps

theorem zeroCells_u8 (k : Nat) : (Builtin.zeroCells (Value.int .u8 0).cells k).toList = u8s (List.replicate k 0) := by
  unfold Builtin.zeroCells u8s
  apply List.ext_getElem
  · simp [Value.cells]
  · intro i h1 h2
    simp [Value.cells, Nat.mod_one]
/-- n bytes at the head of block g that can be appended to: where there is room, the row is owned. -/
structure AppB (w : World) (U g n cap : Nat) (xs : List Int) : Prop where
  len : xs.length = n
  le : n ≤ cap
  max : cap ≤ maxLen
  lt : g < w.heap.size
  cell : ∀ j, j < n → w.cell? ⟨g, j, none⟩ = some (.int .u8 (xs.getD j 0))
  own : n < cap → RowB w U g n cap xs
section
variable {P : Program} {w w' : World} {S U g n cap : Nat} {xs : List Int}
theorem RowB.app (h : RowB w U g n cap xs) : AppB w U g n cap xs := ⟨h.len, h.le, h.max, h.lt, fun _ hj => h.cell hj, fun _ => h⟩
theorem AppB.turned {W : Nat → Prop} (h : AppB w U g n cap xs) (ht : Turned W w w') (hg : ¬ W g) : AppB w' U g n cap xs :=
  ⟨h.len, h.le, h.max, Nat.lt_of_lt_of_le h.lt ht.size, fun j hj => cell_turned ht (h.cell j hj) hg, fun hc => (h.own hc).turned ht hg⟩
theorem AppB.bytR (h : AppB w U g n cap xs) : BytR w (some ⟨g, 0, none⟩) n xs :=
  ⟨h.len, by have := h.le; have := h.max; unfold maxLen at this; omega, fun _ => ⟨g, 0, rfl, fun j hj => by rw [Nat.zero_add]; exact h.cell j hj⟩⟩
theorem AppB.news (h : AppB w U g n cap xs) : ∀ j u, (u8s xs)[j]? = some u → w.cell? ((⟨g, 0, none⟩ : Addr).add j) = some u := by
  intro j u hu
  have hj : j < n := by
    have := (List.getElem?_eq_some_iff.1 hu).1
    rw [u8s_length, h.len] at this
    exact this
  rw [Addr.add_mid, Nat.zero_add, h.cell j hj, ← hu]
  have := h.len
  simp only [u8s, List.getElem?_map, List.getD_eq_getElem?_getD]
  rw [List.getElem?_eq_getElem (by omega)]
  rfl
theorem AppB.const (w : World) (xs : List Int) (U : Nat) (hl : xs.length ≤ 1000) : AppB (w.alloc (.cells (u8s xs).toArray U (xs.length, xs.length + 1))) U w.heap.size xs.length xs.length xs := by
  refine ⟨rfl, Nat.le_refl _, by unfold maxLen; omega, by simp, fun j hj => ?_, fun h => absurd h (by omega)⟩
  rw [cell_of_row _ _ j (u8s xs).toArray U (xs.length, xs.length + 1) (heap_alloc_new w _)]
  simp [u8s, List.getD_eq_getElem?_getD, hj]
/-- Bytes appended. -/
theorem run_app (B : BytT P S U) {ty : TypeId} (h : AppB w U g n cap xs) (ad : Addr) (m c : Nat) (zs : List Int) (hl : zs.length = m) (hnews : ∀ j u, (u8s zs)[j]? = some u → w.cell? (ad.add j) = some u) (hm : 0 < m) (hb : n + m ≤ 140737488355328) :
    ∃ g' cap' w', (Builtin.append_ #[S, S] ty #[.slice (some ⟨g, 0, none⟩) n cap, .slice (some ad) m c]).run P w = .ok (.slice (some ⟨g', 0, none⟩) (n + m) cap') w' ∧ RowB w' U g' (n + m) cap' (xs ++ zs) ∧ w.grownBy w' (some g) ∧ (g' = g ∨ g' = w.heap.size) := by
  obtain ⟨i, hi, hz0, hz1, hz2⟩ := info_parts B.info
  have hu : u8s (xs ++ zs) = u8s xs ++ u8s zs := by simp [u8s]
  by_cases hc : n < cap
  · obtain ⟨v', w', hr, h2, h3, _, h5⟩ := run_append_own_at (P := P) w 0 S ty U i (.int .u8 0) 1 1 B.und hi hz0 hz1 hz2 rfl (by omega) _ n (u8s xs) ((h.own hc).own (Nat.zero_le _)) ad m c (u8s zs) (by rw [u8s_length, hl, Nat.mul_one]) hnews (u8s_one zs) (by simp only [maxLen]; omega) (by omega) (Nat.zero_le _)
    obtain ⟨g', cap', rfl⟩ := own_some h2 (by omega)
    refine ⟨g', cap', w', hr, RowB.of_own (base := 0) (by rw [hu]; exact h2), by simpa [Value.ownBlock] using h3, ?_⟩
    rcases h5 with e | e
    · exact .inl (by simpa [Value.ownBlock] using e)
    · exact .inr (by simpa [Value.ownBlock] using e)
  · have hle := h.le
    have hxl := h.len
    have hr := run_append_grow (P := P) w S ty U i (.int .u8 0) B.und hi hz0 ⟨g, 0, none⟩ n cap (u8s xs) (by rw [u8s_length, h.len, hz1, Nat.mul_one]) h.news ad m c (u8s zs) (by rw [u8s_length, hl, hz1, Nat.mul_one]) hnews (by omega) (by omega) (by rw [hz2]; exact growslice_fits (by omega) (by omega))
    have hge := grownCap_ge w (n + m) cap U
    have hcm : grownCap w (n + m) cap U ≤ maxLen := grownCap_le_maxLen w (n + m) cap U (by unfold maxLen; omega)
    refine ⟨_, _, _, hr, ⟨by rw [List.length_append, hxl, hl], hge, hcm, _, heap_alloc_new w.drew _, ?_, ?_⟩, ⟨rfl, rfl, rfl, by simp, fun j hj _ => Below.heap_alloc w.drew _ j hj⟩, .inr rfl⟩
    · simp only [Array.size_append, List.size_toArray, size_zeroCells, u8s_length, hxl, hl, Value.cells]
      simp
      omega
    · simp only [Array.toList_append]
      rw [hu, List.take_left' (by simp [u8s, hxl, hl])]
theorem wpList_app {ops : Array Oper} {rest : List Oper} {o : Oper} {a : Act} {Q : Exit → Act → World → Prop} (B : BytT P S U) (hgd : o.guard = none) (s x : Operand) (ho : o.op = .call { callee := .builtin .append, args := #[s, x], argTypes := #[S, S] })
    (h : AppB w U g n cap xs) (ad : Addr) (m c : Nat) (zs : List Int) (hl : zs.length = m) (hnews : ∀ j u, (u8s zs)[j]? = some u → w.cell? (ad.add j) = some u) (hm : 0 < m) (hb : n + m ≤ 140737488355328) (hs : a.eval s = .slice (some ⟨g, 0, none⟩) n cap) (hx : a.eval x = .slice (some ad) m c)
    (hC : ∀ g' cap' w', RowB w' U g' (n + m) cap' (xs ++ zs) → w.grownBy w' (some g) → (g' = g ∨ g' = w.heap.size) → wpList P ops Q rest (a.put o.dst (.slice (some ⟨g', 0, none⟩) (n + m) cap')) w') : wpList P ops Q (o :: rest) a w := by
  obtain ⟨g', cap', w', hrun, h1, h2, h3⟩ := run_app (ty := o.type) B h ad m c zs hl hnews hm hb
  exact Lib.wpList_append_run w hgd s x S S ho _ _ hs hx _ _ hrun (hC g' cap' w' h1 h2 h3)
end

theorem run_bytes_zeros {P : Program} {w : World} {S U tn ty : TypeId} {kn : IntKind} (B : BytT P S U) (htn : P.underlying tn = some (.int kn)) {g n cap : Nat} {xs : List Int} (hr : AppB w U g n cap xs) (k : Nat) (h0 : 0 < k) (hb : n + k ≤ 140737488355328) :
    ∃ g' cap' w', (Builtin.append_ #[S, tn] ty #[.slice (some ⟨g, 0, none⟩) n cap, .int .i64 k]).run P w = .ok (.slice (some ⟨g', 0, none⟩) (n + k) cap') w' ∧ RowB w' U g' (n + k) cap' (xs ++ List.replicate k 0) ∧ w.grownBy w' (some g) ∧ (g' = g ∨ g' = w.heap.size) := by
  obtain ⟨i, hi, hz0, hz1, hz2⟩ := info_parts B.info
  have hl := hr.len
  have hle := hr.le
  have hmx := hr.max
  have hlen : (xs ++ List.replicate k (0 : Int)).length = n + k := by simp [hl]
  have hu : u8s (xs ++ List.replicate k 0) = u8s xs ++ u8s (List.replicate k 0) := by simp [u8s]
  by_cases hroom : n + k ≤ cap
  · obtain ⟨cs, hbk, hcs, htk⟩ := (hr.own (by omega)).row
    have hst := run_storeCells_at P g n U (u8s (List.replicate k 0)) 0 cs w hbk (by simp [u8s, hcs]; omega) (u8s_one _)
    simp only [Nat.add_zero] at hst
    have hneg : ¬ ((k : Int) < 0) := by omega
    have hw : IntKind.i64.wrap (k : Int) = k := by rw [IntKind.wrap_i64]; omega
    have h48i : ¬ (281474976710656 < (k : Int)) := by omega
    have hk0 : ¬ k = 0 := by omega
    generalize hcc : (cs.toList.take n ++ u8s (List.replicate k 0) ++ cs.toList.drop (n + (u8s (List.replicate k 0)).length)).toArray = cc at hst
    refine ⟨g, cap, w.setRow g cc, ?_, ⟨hlen, hroom, hmx, cc, setRow_heap w g cs cc U (0, 0) hbk, ?_, ?_⟩, ⟨rfl, rfl, rfl, by simp, fun j _ hj => setRow_other w g j _ (fun e => hj (by rw [e]))⟩, .inl rfl⟩
    · simp [Builtin.append_, run_underlying B.und, run_underlying htn, sizeOf, typeInfo, zeroValue, hi, hz0, hz1, hz2, asInt, asIntOf, hw, hneg, h48i, hk0, hroom, zeroCells_u8, Addr.add_lit, hst]
    · rw [← hcc]; simp [u8s, hcs]; omega
    · rw [← hcc, htk, hu]
      exact List.take_left' (by simp [u8s, hl])
  · have hold : (Builtin.firstCells i.size n (.slice (some ⟨g, 0, none⟩) n cap)).run P w.drew = .ok (u8s xs).toArray w.drew := by
      have := run_firstCells_some (P := P) w.drew i.size n ⟨g, 0, none⟩ n cap (u8s xs) (by rw [u8s_length, hl, hz1, Nat.mul_one]) (hr.turned (Turned.refl (fun _ => False) w).drew (fun e => e)).news
      exact this
    have hrun := Lib.run_append_grow_zeros (P := P) w S tn ty U i (.int .u8 0) .i64 kn B.und htn hi hz0 (some ⟨g, 0, none⟩) n cap (u8s xs) hold k h0 (by omega) (by omega) (by omega) (by rw [hz2]; omega) (by rw [hz2]; exact growslice_fits (by omega) (by omega))
    have hge := grownCap_ge w (n + k) cap U
    have hcm : grownCap w (n + k) cap U ≤ maxLen := grownCap_le_maxLen w (n + k) cap U (by unfold maxLen; omega)
    refine ⟨_, _, _, hrun, ⟨hlen, hge, hcm, _, heap_alloc_new w.drew _, ?_, ?_⟩, ⟨rfl, rfl, rfl, by simp, fun j hj _ => Below.heap_alloc w.drew _ j hj⟩, .inr rfl⟩
    · simp only [Array.size_append, List.size_toArray, size_zeroCells, u8s_length, hl, Value.cells]
      simp
      omega
    · simp only [Array.toList_append, zeroCells_u8]
      rw [hu, List.take_left' (by simp [u8s, hl])]
theorem wpList_bytes_zeros {P : Program} {w : World} {S U tn : TypeId} {kn : IntKind} {ops : Array Oper} {rest : List Oper} {o : Oper} {a : Act} {Q : Exit → Act → World → Prop} (B : BytT P S U) (htn : P.underlying tn = some (.int kn)) (hgd : o.guard = none) (s x : Operand)
    (ho : o.op = .call { callee := .builtin .append, args := #[s, x], argTypes := #[S, tn] }) {g n cap : Nat} {xs : List Int} (hr : AppB w U g n cap xs) (k : Nat) (h0 : 0 < k) (hb : n + k ≤ 140737488355328) (hs : a.eval s = .slice (some ⟨g, 0, none⟩) n cap) (hx : a.eval x = .int .i64 k)
    (h : ∀ g' cap' w', RowB w' U g' (n + k) cap' (xs ++ List.replicate k 0) → w.grownBy w' (some g) → (g' = g ∨ g' = w.heap.size) → wpList P ops Q rest (a.put o.dst (.slice (some ⟨g', 0, none⟩) (n + k) cap')) w') : wpList P ops Q (o :: rest) a w := by
  obtain ⟨g', cap', w', hrun, h1, h2, h3⟩ := run_bytes_zeros (ty := o.type) B htn hr k h0 hb
  exact Lib.wpList_append_run w hgd s x S tn ho _ _ hs hx _ _ hrun (h g' cap' w' h1 h2 h3)

/-- n whole numbers zs at A. -/
structure NumR (w : World) (A : Option Addr) (n : Nat) (zs : List Int) : Prop where
  len : zs.length = n
  max : n ≤ 9223372036854775807
  wf : ∀ z ∈ zs, -9223372036854775808 ≤ z ∧ z ≤ 9223372036854775807
  cell : 0 < n → ∃ b off, A = some ⟨b, off, none⟩ ∧ ∀ j, j < n → w.cell? ⟨b, off + j, none⟩ = some (.int .i64 (zs.getD j 0))
theorem NumR.fresh {w w' : World} {A : Option Addr} {n : Nat} {zs : List Int} (h : NumR w A n zs) (ht : Turned (fun _ => False) w w') : NumR w' A n zs :=
  ⟨h.len, h.max, h.wf, fun hn => by
    obtain ⟨b, off, e, hc⟩ := h.cell hn
    exact ⟨b, off, e, fun j hj => cell_turned ht (hc j hj) (fun e => e)⟩⟩

/-- 'storeman'. -/
def nameB : List Int := [115, 116, 111, 114, 101, 109, 97, 110]
/-- A number's bytes, the highest first. -/
def be8At (z : Int) (t : Nat) : Int := z / 2 ^ (56 - 8 * t) % 256
def be8To (z : Int) (n : Nat) : List Int := (List.range n).map (be8At z)
def be8 (z : Int) : List Int := be8To z 8
theorem be8To_length (z : Int) (n : Nat) : (be8To z n).length = n := by simp [be8To]
theorem be8To_succ (z : Int) (n : Nat) : be8To z (n + 1) = be8To z n ++ [be8At z n] := by simp [be8To, List.range_succ]
theorem be8At_byte (z : Int) (t : Nat) : isByte (be8At z t) := by
  unfold isByte be8At
  generalize z / _ = x
  omega
theorem be8_byte (z : Int) : ∀ x ∈ be8 z, isByte x := by
  intro x hx
  obtain ⟨i, _, rfl⟩ := List.mem_map.1 hx
  exact be8At_byte z i
def preB (zs : List Int) (j : Nat) : List Int := nameB ++ (zs.take j).flatMap be8
theorem flat_length (zs : List Int) : (zs.flatMap be8).length = 8 * zs.length := by
  induction zs with
  | nil => rfl
  | cons z r ih => rw [List.flatMap_cons, List.length_append, ih, be8, be8To_length, List.length_cons]; omega
theorem preB_length (zs : List Int) (j : Nat) (h : j ≤ zs.length) : (preB zs j).length = 8 + 8 * j := by
  unfold preB
  rw [List.length_append, flat_length, List.length_take, Nat.min_eq_left h]
  rfl
theorem preB_succ (zs : List Int) (j : Nat) (h : j < zs.length) : preB zs (j + 1) = preB zs j ++ be8 (zs.getD j 0) := by
  unfold preB
  rw [List.take_succ_eq_append_getElem h, List.flatMap_append, List.append_assoc]
  simp [List.getD_eq_getElem?_getD, h]
/-- A master's sector. -/
def mBytes (zs : List Int) : List Int := nameB ++ zs.flatMap be8 ++ List.replicate 472 0
theorem mBytes_sec (zs : List Int) (h : zs.length = 4) : Sec (mBytes zs) := by
  refine ⟨?_, fun x hx => ?_⟩
  · unfold mBytes
    rw [List.length_append, List.length_append, flat_length, h, List.length_replicate]
    rfl
  · unfold mBytes at hx
    rcases List.mem_append.1 hx with hx | hx
    · rcases List.mem_append.1 hx with hx | hx
      · unfold nameB at hx
        simp at hx
        unfold isByte
        omega
      · obtain ⟨z, _, hz⟩ := List.mem_flatMap.1 hx
        exact be8_byte z x hz
    · have : x = 0 := List.eq_of_mem_replicate hx
      unfold isByte
      omega
def SecRel (w : World) (pre : List Int) (v : Value) (wr : World) : Prop := ∃ g n cap, v = .slice (some ⟨g, 0, none⟩) n cap ∧ AppB wr 5 g n cap pre ∧ w.heap.size ≤ g ∧ Turned (fun _ => False) w wr
def SecLoop (w : World) (zs : List Int) (v i : Value) (wr : World) : Prop := ∃ j : Nat, j ≤ 4 ∧ i = .int .i64 j ∧ SecRel w (preB zs j) v wr
def SecIn (w : World) (pre : List Int) (z : Int) (v i : Value) (wr : World) : Prop := ∃ t : Nat, t ≤ 8 ∧ i = .int .i64 (56 - 8 * (t : Int)) ∧ SecRel w (pre ++ be8To z t) v wr
def SecPost (zs : List Int) (w : World) (e : Ending) (w' : World) : Prop := ∃ g cap, e = .returned (.slice (some ⟨g, 0, none⟩) 512 cap) ∧ RowB w' 5 g 512 cap (mBytes zs) ∧ w.heap.size ≤ g ∧ Turned (fun _ => False) w w'

set_option maxRecDepth 100000 in
set_option maxHeartbeats 1000000 in
theorem sector_any (A : Option Addr) (c : Nat) (zs : List Int) (w : World) (h : NumR w A 4 zs) :
    Calls Try.prog 71 #[.slice A 4 c] w (SecPost zs w) := by
  have h' := Lib.hid h
  have hl := Lib.hid h.len
  clear h
  have kc := fun (w : World) (C : Array Value) (n c : Nat) => Lib.run_convert_bytes_const (P := Try.prog) w 35 5 C n c Try.underlying35 Try.underlying5
  go_enter Try.func71, Try.ntmps71
  go_wp2_with fail
  clear kc
  have hc0 := AppB.const w nameB 5 (by decide)
  have hs0 : SecRel w (preB zs 0) (.slice (some ⟨w.heap.size, 0, none⟩) 8 8) (w.alloc (.cells (u8s nameB).toArray 5 (nameB.length, nameB.length + 1))) := ⟨_, _, _, rfl, hc0, Nat.le_refl _, (Turned.refl _ w).alloc _⟩
  have hs0' := Lib.hid hs0
  clear hc0 hs0
  go_loopw [3, 5, 6, 11] (fun v _ _ i wr => SecLoop w zs v i wr) (fun _ _ _ i _ => 4 - (intOf i).toNat)
  case atStart => exact ⟨0, by omega, rfl, hs0'.out⟩
  case round =>
    obtain ⟨j, hj, rfl, hS⟩ := hrel
    clear hs0'
    obtain ⟨g0, n0, cap0, rfl, hA0, hg0, ht0⟩ := id hS
    obtain ⟨b, off, rfl, hcell⟩ := (h'.out.fresh ht0).cell (by omega)
    by_cases hlt : j < 4
    · have hji : (j : Int) < 4 := by omega
      have q := hcell j hlt
      clear hcell
      have hS' := Lib.hid hS
      clear hS hA0 hg0 ht0
      generalize hz : zs.getD j 0 = z at q
      have hz' := Lib.hid hz
      clear hz
      obtain ⟨wo, hwo⟩ : ∃ wo : World, wo = wr := ⟨_, rfl⟩
      subst hwo
      go_wp2_with fail
      go_loopw [3, 6] (fun v i wr => SecIn w (preB zs j) z v i wr) (fun _ i _ => (intOf i + 8).toNat)
      case atStart => exact ⟨0, by omega, rfl, by rw [show be8To z 0 = [] from rfl, List.append_nil]; exact hS'.out⟩
      case round =>
        obtain ⟨t, ht8, rfl, g, n, cap, rfl, hA, hg, ht⟩ := hrel
        have hn : n = 8 + 8 * j + t := by
          have := hA.len
          rw [List.length_append, preB_length _ _ (by rw [hl.out]; omega), be8To_length] at this
          omega
        have hnl : n ≤ 100 := by omega
        have hA' := Lib.hid hA
        have hgl := hA.lt
        clear hA hn
        by_cases hlt2 : t < 8
        · have h1 : 8 * (t : Int) ≤ 56 := by omega
          have h1b : decide (8 * (t : Int) ≤ 56) = true := by simpa using h1
          have h2 : 0 ≤ 56 - 8 * (t : Int) := by omega
          go_wp2_with (at_builtin; refine wpList_app bytT rfl (.tmp 19) (.tmp 24) rfl (hA'.out.turned ((Turned.refl (fun _ => False) wr).alloc _) (fun e => e)) ⟨wr.heap.size, 0, none⟩ 1 1 [be8At z t] rfl (cell_one_new _ _ _) (by omega) (by omega) rfl rfl ?_; intro g' cap' w' hr' hgr' hat')
          have ht4 : Turned (fun _ => False) w w' := (ht.alloc (.cells #[.int .u8 (be8At z t)] 5)).grown hgr' (fun k e => by injection e with e; exact .inr (by omega))
          have hR : SecIn w (preB zs j) z (.slice (some ⟨g', 0, none⟩) (n + 1) cap') (.int .i64 (56 - 8 * ((t + 1 : Nat) : Int))) w' := by
            refine ⟨t + 1, by omega, rfl, g', n + 1, cap', rfl, ?_, ?_, ht4⟩
            · rw [be8To_succ, ← List.append_assoc]; exact hr'.app
            · have := ht.size
              rcases hat' with e | e
              · omega
              · simp at e; omega
          have hR' := Lib.hid hR
          clear hR hgr' hat' hr'
          go_roundw
          case rel =>
            have hz : Value.int .i64 (56 - 8 * (t : Int) - 8) = .int .i64 (56 - 8 * ((t + 1 : Nat) : Int)) := by congr 1; omega
            first
            | (rw [hz]; exact hR'.out)
            | ((repeat apply Exists.intro); exact ⟨by rw [hz]; exact hR'.out, rfl⟩)
          case measure => simp [intOf]; omega
        · have ht88 : t = 8 := by omega
          subst ht88
          have hR : SecLoop w zs (.slice (some ⟨g, 0, none⟩) n cap) (.int .i64 ((j + 1 : Nat) : Int)) wr := by
            refine ⟨j + 1, by omega, rfl, g, n, cap, rfl, ?_, hg, ht⟩
            rw [preB_succ _ _ (by rw [hl.out]; omega), hz'.out]
            exact hA'.out
          have hR' := Lib.hid hR
          clear hR
          go_wp2
          go_roundw
          case rel =>
            have hz : Value.int .i64 ((j : Int) + 1) = .int .i64 ((j + 1 : Nat) : Int) := by go_num
            first
            | (rw [hz]; exact hR'.out)
            | ((repeat apply Exists.intro); exact ⟨by rw [hz]; exact hR'.out, rfl⟩)
          case measure => simp [intOf]; omega
    · have hj4 : j = 4 := by omega
      subst hj4
      have hn : n0 = 40 := by
        have := hA0.len
        rw [preB_length _ _ (by rw [hl.out]; omega)] at this
        omega
      subst hn
      have hA0' := Lib.hid hA0
      have hgl := hA0.lt
      clear hA0 hS hcell
      go_wp2_with (at_builtin; refine wpList_bytes_zeros bytT Try.underlying3 rfl (.tmp 27) (.tmp 30) rfl hA0'.out 472 (by omega) (by omega) rfl rfl ?_; intro g' cap' w' hr' hgr' hat')
      go_ret
      have e : preB zs 4 ++ List.replicate 472 0 = mBytes zs := by
        unfold preB mBytes
        rw [List.take_of_length_le (by rw [hl.out]; omega)]
      rw [e] at hr'
      refine ⟨g', cap', rfl, hr', ?_, ht0.grown hgr' (fun k e => by injection e with e; exact .inr (by omega))⟩
      have := ht0.size
      rcases hat' with e | e
      · omega
      · omega
end Go.Proofs.Ytobjoafhhchjgaa
