/-
  ytglojnmcbochaaagreatdoor: laws and walks on the road to LinesBack, joined: AskN AskG. Conditions stand at each theorem.
-/
import Derived.Test.YtglojnmcbochaaaGreatDoorRAskB
import Derived.Test.YtglojnmcbochaaaGreatDoorRRegD
import Derived.IntWalk
namespace Go.Proofs.YtglojnmcbochaaaGreatDoor
open Go.RowKit Go.Maps
set_option linter.unusedVariables false
set_option linter.unusedSimpArgs false

theorem wp_appE {P : Program} {w : World} {S U q bytes : Nat} {z : Value} {A : Option Addr} {n c : Nat} {xs : List Value} {o : Oper} {a : Act} {K : Act → World → Prop} {Q : Exit → Act → World → Prop} (E : EltT P S U q bytes z) (s x : Operand) (ho : o.op = .call { callee := .builtin .append, args := #[s, x], argTypes := #[S, S] })
    (h : OwnE w U q A n c xs) (ad : Addr) (m cc : Nat) (ys : List Value) (hl : ys.length = m * q) (hnews : ∀ j u, ys[j]? = some u → w.cell? (ad.add j) = some u) (h1 : ∀ u ∈ ys, u.oneCell' = true) (hm : 0 < m) (hmx : n + m ≤ maxLen) (hb : (n + m) * bytes ≤ 140737488355328) (hs : a.eval s = .slice A n c) (hx : a.eval x = .slice (some ad) m cc)
    (hC : ∀ A' c' w', OwnE w' U q A' (n + m) c' (xs ++ ys) → App2 w w' A A' c c' → K (a.put o.dst (.slice A' (n + m) c')) w') : o.wp P a w K Q := by
  obtain ⟨A', c', w', hrun, h2, h3⟩ := run_appE (ty := o.type) E h ad m cc ys hl hnews h1 hm hmx hb
  exact Lib.wp_append_run w s x S S ho _ _ hs hx _ _ hrun (hC A' c' w' h2 h3)
end Go.Proofs.YtglojnmcbochaaaGreatDoor

namespace Go.Proofs.YtglojnmcbochaaaGreatDoor
open Go.RowKit Go.Maps
set_option linter.unusedVariables false
set_option linter.unusedSimpArgs false

theorem BytS.turned0 {w w' : World} {W : Nat → Prop} {A : Option Addr} {n c : Nat} {zs : List Int} (h : BytS w A n c zs) (ht : Turned W w w') (hW : 0 < n → ∀ b o, A = some ⟨b, o, none⟩ → ¬ W b) : BytS w' A n c zs :=
  ⟨⟨h.len, h.max, fun hn => by
    obtain ⟨b, off, e, hc⟩ := h.cell hn
    exact ⟨b, off, e, fun j hj => cell_turned ht (hc j hj) (hW hn b off e)⟩⟩, h.nil_⟩
/-- What Get's closures share: is all well so far; where they are; the bytes. -/
structure GetW (A : Option Addr) (n c : Nat) (zs : List Int) (B bok bat bbx : Nat) (s : Option (List Int)) (pz : Nat) (w : World) : Prop where
  ok : Blk w bok 4 #[.bool s.isSome]
  at_ : Blk w bat 3 #[.int .i64 (pz : Int)]
  bx : Blk w bbx 106 #[.slice A n c]
  byt : BytS w A n c zs
  le : pz ≤ n
  is_ : ∀ r, s = some r → r = zs.drop pz
  far : 0 < n → ∀ b o, A = some ⟨b, o, none⟩ → b < B
  b1 : B ≤ bok
  b2 : B ≤ bat
  nc : n ≤ c
  cm : c ≤ maxLen
  few : n ≤ 1000000
section
variable {A : Option Addr} {n c : Nat} {zs : List Int} {B bok bat bbx : Nat} {s : Option (List Int)} {pz : Nat} {w w' : World}
theorem GetW.turned {W : Nat → Prop} (h : GetW A n c zs B bok bat bbx s pz w) (ht : Turned W w w') (hW : ∀ i, W i → i ≠ bok ∧ i ≠ bat ∧ i ≠ bbx ∧ B ≤ i) : GetW A n c zs B bok bat bbx s pz w' :=
  ⟨h.ok.turned ht (fun e => (hW _ e).1 rfl), h.at_.turned ht (fun e => (hW _ e).2.1 rfl), h.bx.turned ht (fun e => (hW _ e).2.2.1 rfl), h.byt.turned0 ht (fun hn b o e e2 => by have := h.far hn b o e; have := (hW _ e2).2.2.2; omega), h.le, h.is_, h.far, h.b1, h.b2, h.nc, h.cm, h.few⟩
theorem GetW.fresh (h : GetW A n c zs B bok bat bbx s pz w) (ht : Turned (fun _ => False) w w') : GetW A n c zs B bok bat bbx s pz w' := h.turned ht (fun _ e => e.elim)
theorem GetW.ne2 (h : GetW A n c zs B bok bat bbx s pz w) : bbx ≠ bok := Blk.ne_ h.bx h.ok (by decide)
theorem GetW.ne3 (h : GetW A n c zs B bok bat bbx s pz w) : bbx ≠ bat := Blk.ne_ h.bx h.at_ (by decide)
/-- The two boxes written anew. -/
theorem GetW.put (h : GetW A n c zs B bok bat bbx s pz w) {s' : Option (List Int)} {at' : Nat} (ht : Turned (fun i => i = bok ∨ i = bat) w w') (h1 : Blk w' bok 4 #[.bool s'.isSome]) (h2 : Blk w' bat 3 #[.int .i64 (at' : Int)]) (hle : at' ≤ n) (his : ∀ r, s' = some r → r = zs.drop at') : GetW A n c zs B bok bat bbx s' at' w' :=
  ⟨h1, h2, h.bx.turned ht (fun e => by
    rcases e with e | e
    · exact h.ne2 e
    · exact h.ne3 e), h.byt.turned0 ht (fun hn b o e e2 => by
    have := h.far hn b o e
    have k1 := h.b1
    have k2 := h.b2
    rcases e2 with e2 | e2 <;> omega), hle, his, h.far, h.b1, h.b2, h.nc, h.cm, h.few⟩
end
def BoxT (bok bat : Nat) (i : Nat) : Prop := i = bok ∨ i = bat
end Go.Proofs.YtglojnmcbochaaaGreatDoor

