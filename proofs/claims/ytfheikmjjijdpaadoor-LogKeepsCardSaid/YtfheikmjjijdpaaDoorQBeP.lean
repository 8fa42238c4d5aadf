/-
  ytfheikmjjijdpaadoor: laws and walks on the road to LogKeeps, joined: RegB RegC RegD Bits BeP. Conditions stand at each theorem.
-/
import Derived.Test.YtfheikmjjijdpaaDoorQReg
import Derived.Test.YtfheikmjjijdpaaDoorQSec
import Derived.Laws.BitsLemmas
namespace Go.Proofs.YtfheikmjjijdpaaDoor
open Go.RowKit Go.Maps

section
variable {P : Program} {ops : Array Oper} {Q : Exit → Act → World → Prop} {S : World → Prop}
end

/-! Takes and forced runs in any turn: 'true': taken first among what is ready (it yields one value in every world that meets S); 'false': it alone is ready. -/
section
variable {P : Program} {ops : Array Oper} {Q : Exit → Act → World → Prop} {md : Region.Mode} {S : World → Prop}
def segB (md : Region.Mode) (ops : Array Oper) : List (Bool × Nat) → Array Bool → Bool
  | [], listed => (Region.ready md ops listed).isEmpty
  | (true, i) :: r, listed => (Region.ready md ops listed).contains i && Region.free md ops listed i && segB md ops r (listed.setIfInBounds i true)
  | (false, i) :: r, listed => decide (Region.ready md ops listed = [i]) && segB md ops r (listed.setIfInBounds i true)
def pickSegs (l : List Oper) (is : List (Bool × Nat)) : List (Bool × Oper) := is.filterMap fun p => (l[p.2]?).map fun o => (p.1, o)
def wpSegs (P : Program) (ops : Array Oper) (Q : Exit → Act → World → Prop) (S : World → Prop) : List (Bool × Oper) → Act → World → Prop
  | [], a, w => Q .normal a w
  | (true, o) :: rest, a, w => ∃ v, YieldsIf P ops S o v a ∧ S w ∧ wpSegs P ops Q S rest (a.put o.dst v) w
  | (false, o) :: rest, a, w => if Region.wanted o (yielded ops a.tmps) then o.wp P a w (fun a' w' => S w' ∧ wpSegs P ops Q S rest a' w') Q else (S w ∧ wpSegs P ops Q S rest (a.put o.dst undef) w)
theorem wpSegs_nil {a : Act} {w : World} (h : Q .normal a w) : wpSegs P ops Q S [] a w := h
theorem wpSegs_take {a : Act} {w : World} {o : Oper} {rest : List (Bool × Oper)} {v : Value} (hS : S w) (hw : Region.wanted o (yielded ops a.tmps) = true) (hy : ∀ w, S w → (execOp a.eval o).run P w = .ok (.value v) w)
    (h : wpSegs P ops Q S rest (a.put o.dst v) w) : wpSegs P ops Q S ((true, o) :: rest) a w := ⟨v, .inl ⟨hw, hy⟩, hS, h⟩
theorem wpSegs_run {a : Act} {w : World} {o : Oper} {rest : List (Bool × Oper)} (hw : Region.wanted o (yielded ops a.tmps) = true)
    (h : ∀ K : Act → World → Prop, Shut (∀ a w, S w → wpSegs P ops Q S rest a w → K a w) → o.wp P a w K Q) : wpSegs P ops Q S ((false, o) :: rest) a w := by
  unfold wpSegs
  rw [if_pos hw]
  exact h _ (fun _ _ h1 h2 => ⟨h1, h2⟩)
theorem wpAnyH_segs (hs : Region.noSelect ops = true) (hQ : ∀ c a d v w, Q (.panic c) (Act.put a (some d) v) w → Q (.panic c) a w) :
    ∀ (r : List (Bool × Nat)) (l : List (Bool × Oper)) (listed : Array Bool) (a : Act) (w : World), l = pickSegs ops.toList r → (∀ p ∈ r, p.2 < ops.size) → segB md ops r listed = true → wpSegs P ops Q S l a w → wpAnyH P md ops Q S r.length listed a w
  | [], l, listed, a, w, hl, _, hB, h => by
    subst hl
    exact ⟨by simpa [segB] using hB, h⟩
  | (true, i) :: r, l, listed, a, w, hl, hi, hB, h => by
    have hk : i < ops.size := hi (true, i) (by simp)
    have hok : ops[i]? = some ops[i] := Array.getElem?_eq_getElem hk
    have hl' : l = (true, ops[i]) :: pickSegs ops.toList r := by
      rw [hl]
      simp only [pickSegs]
      rw [List.filterMap_cons]
      have : ops.toList[i]? = some ops[i] := by simp
      rw [this]
      rfl
    rw [hl'] at h
    obtain ⟨v, hy, hS, h⟩ := h
    have hB' : ((Region.ready md ops listed).contains i = true ∧ Region.free md ops listed i = true) ∧ segB md ops r (listed.setIfInBounds i true) = true := by
      simpa only [segB, Bool.and_eq_true] using hB
    exact wpAnyH_take hok hs hB'.1.2 hB'.1.1 (fun c a w hp => by
      cases hd : ops[i].dst with
      | none => rw [hd] at hp; exact hp
      | some d => rw [hd] at hp; exact hQ c a d _ w hp) hy hS (wpAnyH_segs hs hQ r _ _ _ w rfl (fun p hp => hi p (by simp [hp])) hB'.2 h)
  | (false, k) :: r, l, listed, a, w, hl, hi, hB, h => by
    simp only [segB, Bool.and_eq_true, decide_eq_true_eq] at hB
    have hk : k < ops.size := hi (false, k) (by simp)
    have hok : ops[k]? = some ops[k] := Array.getElem?_eq_getElem hk
    have hl' : l = (false, ops[k]) :: pickSegs ops.toList r := by
      rw [hl]
      simp only [pickSegs]
      rw [List.filterMap_cons]
      have : ops.toList[k]? = some ops[k] := by simp
      rw [this]
      rfl
    rw [hl'] at h
    refine wpAnyH_all hB.1 (by simp) (fun i hi' => ?_)
    have : i = k := by simpa using hi'
    subst this
    unfold wpOp
    rw [hok]
    show if Region.wanted ops[i] (yielded ops a.tmps) = true then _ else _
    unfold wpSegs at h
    split
    · rename_i hw
      rw [if_pos hw] at h
      exact .inl (Oper.wp_mono (fun a' w' h' => ⟨h'.1, wpAnyH_segs hs hQ r _ _ a' w' rfl (fun p hp => hi p (by simp [hp])) hB.2 h'.2⟩) h)
    · rename_i hw
      rw [if_neg hw] at h
      exact ⟨h.1, wpAnyH_segs hs hQ r _ _ _ w rfl (fun p hp => hi p (by simp [hp])) hB.2 h.2⟩
/-- The whole check, for the kernel. -/
def segsB (l : List Oper) (r : List (Bool × Nat)) : Bool :=
  Region.noSelect l.toArray && r.all (fun p => decide (p.2 < l.toArray.size)) && decide (r.length = l.toArray.size) && segB .any l.toArray r (Array.replicate l.toArray.size false)
/-- Takes: 'T is': forced runs: 'F is'. -/
def segT (is : List Nat) : List (Bool × Nat) := is.map fun i => (true, i)
def segF (is : List Nat) : List (Bool × Nat) := is.map fun i => (false, i)
theorem wp_region_segs {id : Nat} {a : Act} {w : World} {l : List Oper} (S : World → Prop) (r : List (Bool × Nat)) (hm : P.follows .mixedOrders = true) (hB : segsB l r = true)
    (hQ : ∀ c a d v w, Q (.panic c) (Act.put a (some d) v) w → Q (.panic c) a w)
    (hh : wpSegs P l.toArray Q S (pickSegs l r) a w.drew) : (Code.region id l.toArray true).wp P Q a w := by
  simp only [segsB, Bool.and_eq_true, decide_eq_true_eq, List.all_eq_true] at hB
  obtain ⟨⟨⟨h1, h2⟩, h3⟩, h4⟩ := hB
  refine wp_region_held (S := S) hm ?_
  rw [← h3]
  rw [show Array.replicate r.length false = Array.replicate l.toArray.size false by rw [h3]]
  exact wpAnyH_segs h1 hQ r _ _ a w.drew rfl h2 h4 hh
end
end Go.Proofs.YtfheikmjjijdpaaDoor

namespace Go.Proofs.YtfheikmjjijdpaaDoor
open Go.RowKit Go.Maps

inductive Tr (α : Type) where
  | nil : Tr α
  | take (x : α) (r : Tr α) : Tr α
  | run (x : α) (r : Tr α) : Tr α
  | two (x y : α) (r s : Tr α) : Tr α
def Tr.map {α β : Type} (f : α → β) : Tr α → Tr β
  | .nil => .nil
  | .take x r => .take (f x) (r.map f)
  | .run x r => .run (f x) (r.map f)
  | .two x y r s => .two (f x) (f y) (r.map f) (s.map f)
def Tr.len {α : Type} : Tr α → Nat
  | .nil => 0
  | .take _ r => r.len + 1
  | .run _ r => r.len + 1
  | .two _ _ r _ => r.len + 1
section
variable {P : Program} {ops : Array Oper} {Q : Exit → Act → World → Prop} {md : Region.Mode} {S : World → Prop}
end
end Go.Proofs.YtfheikmjjijdpaaDoor

namespace Go.Proofs.YtfheikmjjijdpaaDoor
open Go.RowKit Go.Maps

inductive Ts (α : Type) where
  | nil : Ts α
  | take (x : α) (r : Ts α) : Ts α
  | run (x : α) (r : Ts α) : Ts α
  | two (x y : α) (r s : Ts α) : Ts α
  | three (x y z : α) (r s t : Ts α) : Ts α
def Ts.map {α β : Type} (f : α → β) : Ts α → Ts β
  | .nil => .nil
  | .take x r => .take (f x) (r.map f)
  | .run x r => .run (f x) (r.map f)
  | .two x y r s => .two (f x) (f y) (r.map f) (s.map f)
  | .three x y z r s t => .three (f x) (f y) (f z) (r.map f) (s.map f) (t.map f)
def Ts.len {α : Type} : Ts α → Nat
  | .nil => 0
  | .take _ r => r.len + 1
  | .run _ r => r.len + 1
  | .two _ _ r _ => r.len + 1
  | .three _ _ _ r _ _ => r.len + 1
section
variable {P : Program} {ops : Array Oper} {Q : Exit → Act → World → Prop} {md : Region.Mode} {S : World → Prop}
end
end Go.Proofs.YtfheikmjjijdpaaDoor

namespace Go.Proofs.YtfheikmjjijdpaaDoor

/-- The low byte beside what stands above it. -/
theorem i64_or_low (n c : Int) (h0 : 0 ≤ c) (h1 : c < 256) : bits .or .i64 (IntKind.i64.wrap (n * 256)) c = IntKind.i64.wrap (n * 256 + c) := by
  have hmod : ∀ x : Int, BitVec.ofInt 64 (IntKind.i64.wrap x) = BitVec.ofInt 64 x := fun x => by
    apply BitVec.eq_of_toNat_eq
    rw [BitVec.toNat_ofInt, BitVec.toNat_ofInt, IntKind.wrap_i64]
    congr 1
    omega
  have hx : (BitVec.ofInt 64 (n * 256)).toNat = 256 * ((n % ((2 ^ 56 : Nat) : Int)).toNat) := by
    rw [BitVec.toNat_ofInt]
    omega
  have hy : (BitVec.ofInt 64 c).toNat = c.toNat := by
    rw [BitVec.toNat_ofInt]
    omega
  have key : (BitVec.ofInt 64 (IntKind.i64.wrap (n * 256)) ||| BitVec.ofInt 64 c).toNat = 256 * ((n % ((2 ^ 56 : Nat) : Int)).toNat) + c.toNat := by
    rw [BitVec.toNat_or, hmod, hx, hy]
    have := Nat.two_pow_add_eq_or_of_lt (i := 8) (b := c.toNat) (by omega) ((n % ((2 ^ 56 : Nat) : Int)).toNat)
    exact this.symm
  show IntKind.i64.wrap ((BitVec.ofInt 64 (IntKind.i64.wrap (n * 256)) ||| BitVec.ofInt 64 c).toNat : Nat) = _
  rw [key, IntKind.wrap_i64, IntKind.wrap_i64]
  omega
end Go.Proofs.YtfheikmjjijdpaaDoor

namespace Go.Proofs.YtfheikmjjijdpaaDoor

def I64 (n : Int) : Prop := -9223372036854775808 ≤ n ∧ n ≤ 9223372036854775807
def beAt (k : Nat) (z : Int) (t : Nat) : Int := z / 2 ^ (8 * (k - 1 - t)) % 256
def beTo (k : Nat) (z : Int) (n : Nat) : List Int := (List.range n).map (beAt k z)
/-- z in k bytes. -/
def be (k : Nat) (z : Int) : List Int := beTo k z k
theorem beTo_length (k : Nat) (z : Int) (n : Nat) : (beTo k z n).length = n := by simp [beTo]
theorem be_length (k : Nat) (z : Int) : (be k z).length = k := beTo_length k z k
theorem beTo_succ (k : Nat) (z : Int) (n : Nat) : beTo k z (n + 1) = beTo k z n ++ [beAt k z n] := by simp [beTo, List.range_succ]
theorem beAt_byte (k : Nat) (z : Int) (t : Nat) : isByte (beAt k z t) := by
  unfold isByte beAt
  generalize z / _ = x
  omega
theorem be_byte (k : Nat) (z : Int) : ∀ x ∈ be k z, isByte x := by
  intro x hx
  obtain ⟨t, _, rfl⟩ := List.mem_map.1 hx
  exact beAt_byte k z t
theorem two_pow_add8 (m : Nat) : (2 : Int) ^ (m + 8) = 2 ^ m * 256 := by
  rw [Int.pow_add]
  rfl
theorem two_pow_pos (m : Nat) : (0 : Int) < 2 ^ m := Int.pow_pos (by decide)
theorem div_pow8 (z : Int) (m : Nat) : z / 2 ^ (m + 8) = z / 2 ^ m / 256 := by
  rw [two_pow_add8]
  have := two_pow_pos m
  rw [Int.ediv_ediv_of_nonneg (by omega)]
/-- The number that bytes say, wrapped as an int64 at each step. -/
def decN (l : List Int) : Int := l.foldl (fun a c => IntKind.i64.wrap (a * 256 + c)) 0
theorem decN_snoc (l : List Int) (c : Int) : decN (l ++ [c]) = IntKind.i64.wrap (decN l * 256 + c) := by simp [decN, List.foldl_append]
theorem decN_bounds (l : List Int) : I64 (decN l) := by
  unfold I64
  rcases List.eq_nil_or_concat l with rfl | ⟨l', c, rfl⟩
  · unfold decN; simp
  · rw [List.concat_eq_append, decN_snoc, IntKind.wrap_i64]
    omega
theorem decN_beTo (k : Nat) (z : Int) (h0 : 0 ≤ z) (h1 : z < 2 ^ (8 * k)) (h2 : z < 9223372036854775808) : ∀ n, n ≤ k → decN (beTo k z n) = z / 2 ^ (8 * (k - n))
  | 0, _ => by
    rw [show beTo k z 0 = [] from rfl, Nat.sub_zero, Int.ediv_eq_zero_of_lt h0 h1]
    rfl
  | n + 1, hn => by
    rw [beTo_succ, decN_snoc, decN_beTo k z h0 h1 h2 n (by omega)]
    unfold beAt
    have e : 8 * (k - n) = 8 * (k - 1 - n) + 8 := by omega
    rw [e, div_pow8, show 8 * (k - (n + 1)) = 8 * (k - 1 - n) by omega]
    have hp := two_pow_pos (8 * (k - 1 - n))
    have hq : 0 ≤ z / 2 ^ (8 * (k - 1 - n)) := Int.ediv_nonneg h0 (by omega)
    have hr : z / 2 ^ (8 * (k - 1 - n)) ≤ z := Int.ediv_le_self _ h0
    rw [IntKind.wrap_i64]
    generalize z / 2 ^ (8 * (k - 1 - n)) = x at hq hr
    omega
theorem decN_be (k : Nat) (z : Int) (h0 : 0 ≤ z) (h1 : z < 2 ^ (8 * k)) (h2 : z < 9223372036854775808) : decN (be k z) = z := by
  unfold be
  rw [decN_beTo k z h0 h1 h2 k (Nat.le_refl _), Nat.sub_self]
  simp
/-- The same without wrapping. -/
def rawN (l : List Int) : Int := l.foldl (fun a c => a * 256 + c) 0
theorem rawN_snoc (l : List Int) (c : Int) : rawN (l ++ [c]) = rawN l * 256 + c := by simp [rawN, List.foldl_append]
theorem snoc_ind {P : List Int → Prop} (h0 : P []) (h1 : ∀ l c, P l → P (l ++ [c])) : ∀ n (l : List Int), l.length = n → P l
  | 0, l, h => by
    obtain rfl := List.length_eq_zero_iff.1 h
    exact h0
  | n + 1, l, h => by
    rcases List.eq_nil_or_concat l with rfl | ⟨l', c, rfl⟩
    · exact h0
    · rw [List.concat_eq_append] at h ⊢
      rw [List.length_append] at h
      exact h1 l' c (snoc_ind h0 h1 n l' (by simpa using h))
theorem decN_raw (l : List Int) : decN l = IntKind.i64.wrap (rawN l) := by
  refine snoc_ind (P := fun l => decN l = IntKind.i64.wrap (rawN l)) (by decide) (fun l c h => ?_) l.length l rfl
  rw [decN_snoc, rawN_snoc, h, IntKind.wrap_i64, IntKind.wrap_i64, IntKind.wrap_i64]
  omega
theorem rawN_lt (l : List Int) : (∀ z ∈ l, isByte z) → 0 ≤ rawN l ∧ rawN l < 2 ^ (8 * l.length) := by
  refine snoc_ind (P := fun l => (∀ z ∈ l, isByte z) → 0 ≤ rawN l ∧ rawN l < 2 ^ (8 * l.length)) (fun _ => by decide) (fun l c h hb => ?_) l.length l rfl
  obtain ⟨a, b⟩ := h (fun z hz => hb z (by simp [hz]))
  have hc := hb c (by simp)
  unfold isByte at hc
  rw [rawN_snoc, List.length_append, List.length_singleton, show 8 * (l.length + 1) = 8 * l.length + 8 by omega, two_pow_add8]
  omega
theorem decN_small (l : List Int) (hb : ∀ z ∈ l, isByte z) (hl : l.length ≤ 7) : 0 ≤ decN l ∧ decN l < 2 ^ (8 * l.length) ∧ decN l = rawN l := by
  obtain ⟨a, b⟩ := rawN_lt l hb
  have h7 : (2 : Int) ^ (8 * l.length) ≤ 2 ^ 56 := by
    have : (2 : Nat) ^ (8 * l.length) ≤ 2 ^ 56 := Nat.pow_le_pow_right (by omega) (by omega)
    exact_mod_cast this
  have e : decN l = rawN l := by
    rw [decN_raw, IntKind.wrap_i64]
    omega
  rw [e]
  exact ⟨a, b, rfl⟩
theorem beAt_wrap (k : Nat) (z : Int) (t : Nat) (hk : k ≤ 8) (ht : t < k) : beAt k (IntKind.i64.wrap z) t = beAt k z t := by
  unfold beAt
  rw [IntKind.wrap_i64]
  have hs : 8 * (k - 1 - t) ≤ 56 := by omega
  have h8 : k - 1 - t ≤ 7 := by omega
  generalize k - 1 - t = m at h8
  have : m = 0 ∨ m = 1 ∨ m = 2 ∨ m = 3 ∨ m = 4 ∨ m = 5 ∨ m = 6 ∨ m = 7 := by omega
  rcases this with rfl | rfl | rfl | rfl | rfl | rfl | rfl | rfl <;> simp only [Nat.mul_zero, Nat.reduceMul, Int.reducePow] <;> omega
theorem be_wrap (k : Nat) (z : Int) (hk : k ≤ 8) : be k (IntKind.i64.wrap z) = be k z := by
  unfold be beTo
  refine List.map_congr_left fun t ht => beAt_wrap k z t hk (List.mem_range.1 ht)
theorem be_raw (l : List Int) : (∀ z ∈ l, isByte z) → be l.length (rawN l) = l := by
  refine snoc_ind (P := fun l => (∀ z ∈ l, isByte z) → be l.length (rawN l) = l) (fun _ => rfl) (fun l c h hb => ?_) l.length l rfl
  have h' := h (fun z hz => hb z (by simp [hz]))
  have hc := hb c (by simp)
  unfold isByte at hc
  rw [List.length_append, List.length_singleton]
  unfold be
  rw [beTo_succ]
  congr 1
  · conv => rhs; rw [← h']
    unfold be beTo
    refine List.map_congr_left fun t ht => ?_
    have ht' := List.mem_range.1 ht
    unfold beAt
    rw [rawN_snoc, show 8 * (l.length + 1 - 1 - t) = 8 * (l.length - 1 - t) + 8 by omega]
    rw [two_pow_add8, Int.mul_comm (2 ^ _) 256, ← Int.ediv_ediv_of_nonneg (by decide)]
    congr 2
    omega
  · unfold beAt
    rw [rawN_snoc, show 8 * (l.length + 1 - 1 - l.length) = 0 by omega]
    simp
    omega
theorem be_dec (l : List Int) (hb : ∀ z ∈ l, isByte z) (hl : l.length ≤ 8) : be l.length (decN l) = l := by
  rw [decN_raw, be_wrap _ _ hl, be_raw l hb]

/-! Readers: none: bytes were wanting. -/
def takeS (n : Nat) : Option (List Int) → List Int × Option (List Int)
  | none => ([], none)
  | some zs => if zs.length < n then ([], none) else (zs.take n, some (zs.drop n))
def numS (k : Nat) (s : Option (List Int)) : Int × Option (List Int) := (decN (takeS k s).1, (takeS k s).2)
def rowS (s : Option (List Int)) : List Int × Option (List Int) := takeS (numS 1 s).1.toNat (numS 1 s).2
theorem takeS_short {n : Nat} {zs : List Int} (h : zs.length < n) : takeS n (some zs) = ([], none) := if_pos h
theorem takeS_some {n : Nat} {zs : List Int} (h : n ≤ zs.length) : takeS n (some zs) = (zs.take n, some (zs.drop n)) := if_neg (by omega)
theorem takeS_app (l r : List Int) : takeS l.length (some (l ++ r)) = (l, some r) := by
  rw [takeS_some (by simp)]
  simp
theorem numS_app (k : Nat) (z : Int) (r : List Int) (h0 : 0 ≤ z) (h1 : z < 2 ^ (8 * k)) (h2 : z < 9223372036854775808) : numS k (some (be k z ++ r)) = (z, some r) := by
  have := takeS_app (be k z) r
  rw [be_length] at this
  unfold numS
  rw [this]
  simp only
  rw [decN_be k z h0 h1 h2]
theorem rowS_app (l r : List Int) (h : l.length ≤ 255) : rowS (some (((l.length : Int) :: l) ++ r)) = (l, some r) := by
  have h1 : be 1 (l.length : Int) = [(l.length : Int)] := by
    unfold be beTo beAt
    simp
    omega
  have h2 := numS_app 1 (l.length : Int) (l ++ r) (by omega) (by simp; omega) (by omega)
  rw [h1, List.singleton_append] at h2
  unfold rowS
  rw [List.cons_append, h2]
  exact takeS_app l r
/-- What a reader took stood ahead. -/
theorem takeS_eq {n : Nat} {s : Option (List Int)} {l zs : List Int} (h : takeS n s = (l, some zs)) : s = some (l ++ zs) ∧ l.length = n := by
  cases s with
  | none => cases h
  | some ys =>
    rcases Nat.lt_or_ge ys.length n with hl | hl
    · rw [takeS_short hl] at h
      cases h
    · rw [takeS_some hl] at h
      injection h with h1 h2
      injection h2 with h2
      subst h1 h2
      exact ⟨by rw [List.take_append_drop], by rw [List.length_take]; omega⟩
theorem numS_eq {k : Nat} {s : Option (List Int)} {z : Int} {zs : List Int} (hk : k ≤ 8) (hb : ∀ ys, s = some ys → ∀ y ∈ ys, isByte y) (h : numS k s = (z, some zs)) : s = some (be k z ++ zs) ∧ I64 z ∧ (k ≤ 7 → 0 ≤ z ∧ z < 2 ^ (8 * k)) := by
  unfold numS at h
  injection h with h1 h2
  obtain ⟨e, hl⟩ := takeS_eq (l := (takeS k s).1) (zs := zs) (by rw [← h2])
  have hbl : ∀ x ∈ (takeS k s).1, isByte x := fun x hx => hb _ e x (by simp [hx])
  generalize (takeS k s).1 = l at *
  subst h1
  refine ⟨?_, decN_bounds l, fun h7 => ?_⟩
  · rw [← hl, be_dec l hbl (by omega)]
    exact e
  · have := decN_small l hbl (by omega)
    rw [hl] at this
    exact ⟨this.1, this.2.1⟩
end Go.Proofs.YtfheikmjjijdpaaDoor

