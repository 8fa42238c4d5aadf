/-
  ytglojnmcbochaaagreatdoor: laws and walks on the road to LinesBack, joined: CodE Bits BeP CodQ. Conditions stand at each theorem.
-/
import Derived.Test.YtglojnmcbochaaaGreatDoorRCodD
import Derived.Test.YtglojnmcbochaaaGreatDoorRShelf
import Derived.Lib.AppendIntMem
import Derived.Lib.ParseIntBTie
import Derived.Test.YtglojnmcbochaaaGreatDoorRMem
import Derived.Laws.BitsLemmas
import Derived.Test.YtglojnmcbochaaaGreatDoorRSec
namespace Go.Proofs.YtglojnmcbochaaaGreatDoor
open Go.RowKit Go.Maps
set_option linter.unusedVariables false

theorem var_turned {P : Program} {w w' : World} {n : String} {g : Nat} {cs : Array Value} (h : w.var? P n = some cs) (hg : P.globalNamed n = some g) (ht : Turned (fun _ => False) w w') : w'.var? P n = some cs := by
  unfold World.var? at h ⊢
  rw [hg] at h ⊢
  simp only [Option.bind_some] at h ⊢
  have hlt : g < w.heap.size := by
    rcases Nat.lt_or_ge g w.heap.size with h1 | h1
    · exact h1
    · rw [Array.getElem?_eq_none h1] at h; cases h
  rw [ht.block g hlt (fun e => e)]
  exact h
/-- The library's variables hold what their initialisers lay. -/
structure VarsOk (w : World) : Prop where
  syn : ∃ tp p, w.var? Tryz.prog "strconv.ErrSyntax" = some #[.iface tp p]
  rng : ∃ tp p, w.var? Tryz.prog "strconv.ErrRange" = some #[.iface tp p]
  tab : Lib.TabIs Tryz.prog w "internal/strconv.uint64pow10" .u64 Lib.pow10Tab
theorem VarsOk.turned {w w' : World} (h : VarsOk w) (ht : Turned (fun _ => False) w w') : VarsOk w' := by
  obtain ⟨⟨t1, p1, h1⟩, ⟨t2, p2, h2⟩, h3⟩ := h
  exact ⟨⟨t1, p1, var_turned h1 (g := 8) (by kernel_rfl) ht⟩, ⟨t2, p2, var_turned h2 (g := 9) (by kernel_rfl) ht⟩, var_turned (g := 5) h3 (by kernel_rfl) ht⟩
theorem turned_grow (w : World) (k : Nat) (os : Array Obj) : Turned (fun _ => False) w (Sort.grow (w.drewN k) os) := Turned.of_below (Lib.below_grow w.heap.size w (Nat.le_refl _) k os) _
def StrNew (l : List UInt8) (w : World) (e : Ending) (w' : World) : Prop := e = .returned (.string ⟨l.toArray⟩) ∧ Turned (fun _ => False) w w'
theorem text_any (n : Int) (w : World) (hv : VarsOk w) (h : int64 n) : Calls Tryz.prog 76 #[.int .i64 n] w (StrNew (Lib.itoa n) w) := by
  have hc := Lib.hid (Any.strconv_FormatInt_10 Tryz.laysM173 n h.1 h.2 w hv.tab)
  go_enter Tryz.func76, Tryz.ntmps76
  go_wp2_with fail
  refine hc.out.mono ?_
  rintro e w1 ⟨rfl, k, os, rfl⟩
  have ht := Lib.hid (turned_grow w k os)
  generalize Sort.grow (w.drewN k) os = w1 at ht
  go_wp2_with fail
  go_ret
  exact ⟨rfl, ht.out⟩
def NumPost (o : Option Int) (w : World) (e : Ending) (w' : World) : Prop := e = .returned (.tuple #[.int .i64 (o.getD 0), .bool o.isSome]) ∧ Turned (fun _ => False) w w'
theorem str_eq_iff (s t : ByteArray) : (s.toList == t.toList) = decide (s.data.toList = t.data.toList) := by
  rw [ByteArray.toList_eq, ByteArray.toList_eq]
  by_cases h : s.data.toList = t.data.toList
  · rw [h]; simp
  · rw [decide_eq_false h]; exact beq_eq_false_iff_ne.2 h
set_option maxRecDepth 100000 in
theorem number_any (s : ByteArray) (w : World) (hv : VarsOk w) (hs : s.size ≤ 281474976710656) : Calls Tryz.prog 99 #[.string s] w (NumPost (numL s.data.toList) w) := by
  have hp : Lib.parseIntB 64 s.data.toList = Lib.atoiAll s.data.toList := Lib.parseIntB_64 _
  rcases hat : Lib.atoiAll s.data.toList with v | _ | _
  · have hb := Lib.atoiAll_bounds hat
    have e : numL s.data.toList = if Lib.itoa v = s.data.toList then some v else none := by unfold numL; rw [hat]
    have hc := Lib.hid (Any.strconv_ParseInt_10_at64_ok Tryz.laysC174 s (by omega) v (hp.trans hat) w)
    have hse := str_eq_iff ⟨(Lib.itoa v).toArray⟩ s
    have hsd : (⟨(Lib.itoa v).toArray⟩ : ByteArray).data.toList = Lib.itoa v := by simp
    rw [hsd] at hse
    have htx := Lib.hid (fun w hv => text_any v w hv hb)
    have e' := Lib.hid e
    clear e hat hp hsd
    by_cases heq : Lib.itoa v = s.data.toList
    · rw [decide_eq_true heq] at hse
      have heq' := Lib.hid heq
      have hse' := Lib.hid hse
      clear heq hse
      go_enter Tryz.func99, Tryz.ntmps99
      go_wp2_with fail
      refine hc.out.mono ?_
      rintro e w1 ⟨rfl, hw1⟩
      have ht1 : Turned (fun _ => False) w w1 := by
        rcases hw1 with rfl | ⟨t, rfl⟩
        · exact Turned.refl _ _
        · exact turned_bytes w t
      have ht1' := Lib.hid ht1
      clear hw1 ht1
      go_wp2_with fail
      refine (htx.out _ (hv.turned ht1'.out)).mono ?_
      rintro e w2 ⟨rfl, ht2⟩
      have ht2' := Lib.hid ht2
      clear ht2
      have hse := hse'.out
      generalize (⟨(Lib.itoa v).toArray⟩ : ByteArray) = str at hse
      go_wp2_with fail
      go_ret2
      rw [e'.out, if_pos heq'.out]
      exact ⟨rfl, ht1'.out.and_ ht2'.out⟩
    · rw [decide_eq_false heq] at hse
      have heq' := Lib.hid heq
      have hse' := Lib.hid hse
      clear heq hse
      go_enter Tryz.func99, Tryz.ntmps99
      go_wp2_with fail
      refine hc.out.mono ?_
      rintro e w1 ⟨rfl, hw1⟩
      have ht1 : Turned (fun _ => False) w w1 := by
        rcases hw1 with rfl | ⟨t, rfl⟩
        · exact Turned.refl _ _
        · exact turned_bytes w t
      have ht1' := Lib.hid ht1
      clear hw1 ht1
      go_wp2_with fail
      refine (htx.out _ (hv.turned ht1'.out)).mono ?_
      rintro e w2 ⟨rfl, ht2⟩
      have ht2' := Lib.hid ht2
      clear ht2
      have hse := hse'.out
      generalize (⟨(Lib.itoa v).toArray⟩ : ByteArray) = str at hse
      go_wp2_with fail
      go_ret2
      rw [e'.out, if_neg heq'.out]
      exact ⟨rfl, ht1'.out.and_ ht2'.out⟩
  · have e : numL s.data.toList = none := by unfold numL; rw [hat]
    obtain ⟨tp, p, h1⟩ := hv.syn
    have hc := Lib.hid (Any.strconv_ParseInt_10_at64_syntax_var Tryz.laysC174 s hs (hp.trans hat) tp p w h1)
    have e' := Lib.hid e
    clear e h1 hat hp
    go_enter Tryz.func99, Tryz.ntmps99
    go_wp2_with fail
    refine hc.out.mono ?_
    rintro e w1 ⟨N, rfl, _, _, hb⟩
    have ht := Lib.hid (Turned.of_below hb (fun _ => False))
    clear hb
    go_wp2_with fail
    go_ret2
    rw [e'.out]
    exact ⟨rfl, ht.out⟩
  · have e : numL s.data.toList = none := by unfold numL; rw [hat]
    obtain ⟨tp, p, h1⟩ := hv.rng
    have hc := Lib.hid (Any.strconv_ParseInt_10_at64_range_var Tryz.laysC174 s hs (hp.trans hat) tp p w h1)
    have e' := Lib.hid e
    clear e h1 hat hp
    go_enter Tryz.func99, Tryz.ntmps99
    go_wp2_with fail
    refine hc.out.mono ?_
    rintro e w1 ⟨N, rfl, _, _, hb⟩
    have ht := Lib.hid (Turned.of_below hb (fun _ => False))
    clear hb
    go_wp2_with fail
    go_ret2
    rw [e'.out]
    exact ⟨rfl, ht.out⟩
end Go.Proofs.YtglojnmcbochaaaGreatDoor

namespace Go.Proofs.YtglojnmcbochaaaGreatDoor

end Go.Proofs.YtglojnmcbochaaaGreatDoor

namespace Go.Proofs.YtglojnmcbochaaaGreatDoor

def I64 (n : Int) : Prop := -9223372036854775808 ≤ n ∧ n ≤ 9223372036854775807
def beAt (k : Nat) (z : Int) (t : Nat) : Int := z / 2 ^ (8 * (k - 1 - t)) % 256
def beTo (k : Nat) (z : Int) (n : Nat) : List Int := (List.range n).map (beAt k z)
/-- z in k bytes. -/
def be (k : Nat) (z : Int) : List Int := beTo k z k
/-- The number that bytes say, wrapped as an int64 at each step. -/
def decN (l : List Int) : Int := l.foldl (fun a c => IntKind.i64.wrap (a * 256 + c)) 0
/-! Readers: none: bytes were wanting. -/
def takeS (n : Nat) : Option (List Int) → List Int × Option (List Int)
  | none => ([], none)
  | some zs => if zs.length < n then ([], none) else (zs.take n, some (zs.drop n))
def numS (k : Nat) (s : Option (List Int)) : Int × Option (List Int) := (decN (takeS k s).1, (takeS k s).2)
end Go.Proofs.YtglojnmcbochaaaGreatDoor

namespace Go.Proofs.YtglojnmcbochaaaGreatDoor

end Go.Proofs.YtglojnmcbochaaaGreatDoor

