/-
  The document's number (storemanref13): a number in so many bytes; what its Put keeps. No condition but numbers.
-/
import Derived.Test.YtbecdijccifllaaGreatDoorPAskW
import Derived.IntWalk
namespace Go.Proofs.YtbecdijccifllaaGreatDoor
open Go.RowKit Go.Maps
set_option linter.unusedVariables false
set_option linter.unusedSimpArgs false

theorem cell_one_new (w : World) (T : TypeId) (v : Value) : ∀ j u, ([v] : List Value)[j]? = some u → (w.alloc (.cells #[v] T)).cell? ((⟨w.heap.size, 0, none⟩ : Addr).add j) = some u := news_new1 w T v
/-- What an append to one's own, or to nil, leaves. -/
theorem app_step {w0 wr w2 w4 : World} {A A4 : Option Addr} {c c4 : Nat} (ht : Turned (fun _ => False) w0 wr) (hA : ∀ g, A = some ⟨g, 0, none⟩ → w0.heap.size ≤ g) (t2 : Turned (fun _ => False) wr w2)
    (hor : (A4 = A ∧ c4 = c ∧ A ≠ none ∧ Turned (fun g => A = some ⟨g, 0, none⟩) w2 w4) ∨ (A4 = some ⟨w2.heap.size, 0, none⟩ ∧ Turned (fun _ => False) w2 w4)) : Turned (fun _ => False) w0 w4 ∧ ∀ g, A4 = some ⟨g, 0, none⟩ → w0.heap.size ≤ g := by
  have t02 := ht.and_ t2
  rcases hor with ⟨rfl, _, _, h4⟩ | ⟨rfl, h4⟩
  · exact ⟨t02.trans h4 (fun _ e => e) (fun g e => .inr (hA g e)), hA⟩
  · exact ⟨t02.trans h4 (fun _ e => e) (fun _ e => e.elim), fun g e => by injection e with e; injection e with e; have := t02.size; omega⟩
theorem u64_byte (n : Int) (m : Nat) (hm : m ≤ 7) : n % 18446744073709551616 / 2 ^ (8 * m) % 256 = n / 2 ^ (8 * m) % 256 := by
  have : m = 0 ∨ m = 1 ∨ m = 2 ∨ m = 3 ∨ m = 4 ∨ m = 5 ∨ m = 6 ∨ m = 7 := by omega
  rcases this with rfl | rfl | rfl | rfl | rfl | rfl | rfl | rfl <;> simp only [Nat.mul_zero, Nat.reduceMul, Int.reducePow] <;> omega
def FNumRel (n : Int) (k : Nat) (w : World) (v i : Value) (wr : World) : Prop :=
  ∃ (t : Nat) (A : Option Addr) (c : Nat), t ≤ k ∧ i = .int .i64 ((k : Int) - 1 - (t : Int)) ∧ v = .slice A t c ∧ OwnV wr A t c (beTo k n t) ∧ (∀ g, A = some ⟨g, 0, none⟩ → w.heap.size ≤ g) ∧ Turned (fun _ => False) w wr
set_option maxRecDepth 100000 in
set_option maxHeartbeats 1000000 in
theorem fnumber13_any (n : Int) (k : Nat) (w : World) (hk : k ≤ 8) (hn : I64 n) : Calls Tryz.prog 47 #[.int .i64 n, .int .i64 k] w (PutPost (be k n) w) := by
  unfold I64 at hn
  go_enter Tryz.func47, Tryz.ntmps47
  go_wp2_with fail
  go_loopw [5, 6] (fun v i wr => FNumRel n k w v i wr) (fun _ i _ => (intOf i + 1).toNat)
  case atStart => exact ⟨0, none, 0, Nat.zero_le _, by simp, rfl, OwnV.nil _, (fun g e => by cases e), Turned.refl _ _⟩
  case round =>
    obtain ⟨t, A, c, ht, rfl, rfl, ho, hg, hT⟩ := hrel
    have ho' := Lib.hid ho
    have hg' := Lib.hid hg
    have hT' := Lib.hid hT
    clear ho hg hT
    by_cases hlt : t < k
    · obtain ⟨m, hm⟩ : ∃ m : Nat, m = k - 1 - t := ⟨_, rfl⟩
      have hmi : (k : Int) - 1 - (t : Int) = (m : Int) := by omega
      have hm7 : m ≤ 7 := by omega
      have hx := Lib.hid (show beAt k n t = n / 2 ^ (8 * m) % 256 by unfold beAt; rw [hm])
      rw [hmi]
      clear hm
      have hm0 : (0 : Int) ≤ (m : Int) := by omega
      have h8 : (0 : Int) ≤ 8 * (m : Int) := by omega
      have h8b : 8 * (m : Int) ≤ 56 := by omega
      have hw8 : IntKind.i64.wrap (8 * (m : Int)) = 8 * (m : Int) := IntWalk.i64_in _ (by omega)
      have hu8 : IntKind.u64.wrap (8 * (m : Int)) = 8 * (m : Int) := IntWalk.u64_in _ (by omega)
      go_wp2_with (at_builtin; refine wpList_app2 bytT rfl (.tmp 13) (.tmp 21) rfl (ho'.out.turned ((Turned.refl (fun _ => False) wr).alloc _) (fun _ _ e => e)) ⟨wr.heap.size, 0, none⟩ 1 1 [IntKind.u64.wrap n / 2 ^ (8 * m) % 256] rfl (cell_one_new _ _ _) (by omega) (by omega) rfl rfl ?_; intro A4 c4 w4 ho4 hor4)
      rw [show IntKind.u64.wrap n / 2 ^ (8 * m) % 256 = beAt k n t by rw [hx.out, ← u64_byte n m hm7, IntKind.wrap_u64]] at ho4
      obtain ⟨T4, G4⟩ := app_step hT'.out hg'.out ((Turned.refl (fun _ => False) wr).alloc _) hor4
      have hR := Lib.hid (show FNumRel n k w (.slice A4 (t + 1) c4) (.int .i64 ((k : Int) - 1 - ((t + 1 : Nat) : Int))) w4 from ⟨t + 1, A4, c4, hlt, rfl, rfl, by rw [beTo_succ]; exact ho4, G4, T4⟩)
      have hmv := Lib.hid (show Value.int .i64 ((m : Int) - 1) = .int .i64 ((k : Int) - 1 - ((t + 1 : Nat) : Int)) by congr 1; omega)
      clear ho4 hor4 T4 G4
      go_roundw
      case rel =>
        first
        | (rw [hmv.out]; exact hR.out)
        | ((repeat apply Exists.intro); exact ⟨by rw [hmv.out]; exact hR.out, rfl⟩)
      case measure => simp [intOf] <;> omega
    · obtain rfl : k = t := by omega
      have hneg : (k : Int) - 1 - (k : Int) = -1 := by omega
      rw [hneg]
      go_wp2_with fail
      go_ret
      have hl : (be k n).length = k := be_length k n
      exact ⟨A, c, by rw [hl]; rfl, by rw [hl]; exact ho'.out, hg'.out, hT'.out⟩
/-- append of bytes that lie in memory of their own. -/
theorem wpList_appB {w : World} {A A2 : Option Addr} {n c m c2 : Nat} {zs ys : List Int} {ops : Array Oper} {rest : List Oper} {o : Oper} {a : Act} {Q : Exit → Act → World → Prop} (hgd : o.guard = none) (s x : Operand) (ho : o.op = .call { callee := .builtin .append, args := #[s, x], argTypes := #[30, 30] })
    (h : OwnV w A n c zs) (h2 : OwnV w A2 m c2 ys) (hm : 0 < m) (hb : n + m ≤ 140737488355328) (hs : a.eval s = .slice A n c) (hx : a.eval x = .slice A2 m c2)
    (hC : ∀ A' c' w', OwnV w' A' (n + m) c' (zs ++ ys) → App2 w w' A A' c c' → wpList Tryz.prog ops Q rest (a.put o.dst (.slice A' (n + m) c')) w') : wpList Tryz.prog ops Q (o :: rest) a w := by
  obtain ⟨g, rfl, hr⟩ := h2.some_ hm
  exact wpList_app2 bytT hgd s x ho h ⟨g, 0, none⟩ m c2 ys h2.len (news_of_row hr) hm hb hs hx (fun A' c' w' h1 h3 => hC A' c' w' h1 h3)
structure PuW (a : AskV) (S : AskS) (w : World) (ba : Nat) (A : Option Addr) (c : Nat) (zs : List Int) (W : World) : Prop where
  aa : AskAt W ba a S
  own : OwnV W A zs.length c zs
  ge : ∀ g, A = some ⟨g, 0, none⟩ → w.heap.size ≤ g
  t : Turned (fun _ => False) w W
section
variable {a : AskV} {S : AskS} {w W W2 W4 : World} {ba c c4 m : Nat} {A A4 : Option Addr} {zs ys : List Int}
theorem PuW.fresh (h : PuW a S w ba A c zs W) (ht : Turned (fun _ => False) W W2) : PuW a S w ba A c zs W2 :=
  ⟨h.aa.fresh ht, h.own.turned ht (fun _ _ e => e), h.ge, h.t.trans ht (fun _ e => e) (fun _ e => e.elim)⟩
theorem PuW.app (h : PuW a S w ba A c zs W) (ho : OwnV W4 A4 (zs.length + m) c4 (zs ++ ys)) (hor : App2 W W4 A A4 c c4) : PuW a S w ba A4 c4 (zs ++ ys) W4 := by
  have hm := hor.mine h.t h.ge
  have hl : zs.length + m = (zs ++ ys).length := by have := ho.len; omega
  rw [hl] at ho
  exact ⟨h.aa.turned hor.turned (fun e => h.own.blk h.aa (by decide) e rfl), ho, hm.2, hm.1⟩
end
def PuRel (a : AskV) (S : AskS) (f : List Nat) (w : World) (ba : Nat) (v i : Value) (wr : World) : Prop :=
  ∃ (pos : Nat) (A : Option Addr) (c : Nat), pos ≤ f.length ∧ i = .int .i64 pos ∧ v = .slice A (headA a ++ (f.take pos).flatMap (encF a)).length c ∧ PuW a S w ba A c (headA a ++ (f.take pos).flatMap (encF a)) wr
theorem PuRel.step {a : AskV} {S : AskS} {f : List Nat} {w W : World} {ba pos k c : Nat} {A : Option Addr} {zs : List Int} (hp : pos < f.length) (ht : f.take (pos + 1) = f.take pos ++ [k]) (hz : zs = (headA a ++ (f.take pos).flatMap (encF a)) ++ encF a k) (h : PuW a S w ba A c zs W) :
    PuRel a S f w ba (.slice A zs.length c) (.int .i64 ((pos + 1 : Nat) : Int)) W := by
  have e : headA a ++ (f.take (pos + 1)).flatMap (encF a) = zs := by
    rw [hz, ht, List.flatMap_append, List.append_assoc]
    simp
  exact ⟨pos + 1, A, c, hp, rfl, by rw [e], by rw [e]; exact h⟩
def PuIn (a : AskV) (S : AskS) (w : World) (ba n : Nat) (z : Nat → List Int) (v i : Value) (wr : World) : Prop :=
  ∃ (j : Nat) (A : Option Addr) (c : Nat), j ≤ n ∧ i = .int .i64 j ∧ v = .slice A (z j).length c ∧ PuW a S w ba A c (z j) wr
theorem be1_mod (k : Int) : be 1 k = [k % 256] := by
  have e : be 1 k = [k / 2 ^ (8 * (1 - 1 - 0)) % 256] := rfl
  rw [e]
  simp
end Go.Proofs.YtbecdijccifllaaGreatDoor

