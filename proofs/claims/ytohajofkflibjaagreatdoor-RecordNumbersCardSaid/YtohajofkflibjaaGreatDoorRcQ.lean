/-
  storemanlaw19.RecordNumbers, the walk: records of each kind, bent, cut and turned.
-/
import Derived.Test.YtohajofkflibjaaGreatDoorRcP
import Derived.Test.YtohajofkflibjaaGreatDoorRcG
import Derived.Test.YtohajofkflibjaaGreatDoorBnA
import Derived.Test.YtohajofkflibjaaGreatDoorSom
import Derived.Test.YtohajofkflibjaaGreatDoorBnt
import Derived.Test.YtohajofkflibjaaGreatDoorBnu
namespace Go.Proofs.YtohajofkflibjaaGreatDoor
open Go.RowKit Go.Maps
set_option linter.unusedVariables false
set_option linter.unusedSimpArgs false

theorem bent_any (R : Rec) (S : RecS) (w : World) (h : RecB w R S) (hk : R.Ok) (n : Nat) (hn : n < 28) : Calls Tryz.prog 25 #[.agg (recC R S), .int .i64 (n : Int)] w (BentP w) := by
  rcases (show n = 0 ∨ n = 1 ∨ n = 2 ∨ n = 3 ∨ n = 4 ∨ n = 5 ∨ n = 6 ∨ n = 7 ∨ n = 8 ∨ n = 9 ∨ n = 10 ∨ n = 11 ∨ n = 12 ∨ n = 13 ∨ n = 14 ∨ n = 15 ∨ n = 16 ∨ n = 17 ∨ n = 18 ∨ n = 19 ∨ n = 20 ∨ n = 21 ∨ n = 22 ∨ n = 23 ∨ n = 24 ∨ n = 25 ∨ n = 26 ∨ n = 27 by omega) with rfl | rfl | rfl | rfl | rfl | rfl | rfl | rfl | rfl | rfl | rfl | rfl | rfl | rfl | rfl | rfl | rfl | rfl | rfl | rfl | rfl | rfl | rfl | rfl | rfl | rfl | rfl | rfl
  · exact bent_0 R S w h.is hk
  · exact bent_1 R S w h.is hk
  · exact bent_2 R S w h.is hk
  · exact bent_3 R S w h.is hk
  · exact bent_4 R S w h.is hk
  · exact bent_5 R S w h.is hk
  · exact bent_6 R S w h.is hk
  · exact bent_7 R S w h.is hk
  · exact bent_8 R S w h.is hk
  · exact bent_9 R S w h.is hk
  · exact bent_10 R S w h.is hk
  · exact bent_11 R S w h.is hk
  · exact bent_12 R S w h.is hk h.oc h.on
  · exact bent_13 R S w h.is hk h.nc h.nn
  · exact bent_14 R S w h.is hk
  · exact bent_15 R S w h.is hk
  · exact bent_16 R S w h.is hk
  · exact bent_17 R S w h.is hk
  · exact bent_18 R S w h.is hk
  · exact bent_19 R S w h.is hk
  · exact bent_20 R S w h.is hk
  · exact bent_21 R S w h.is hk
  · exact bent_22 R S w h.is hk
  · exact bent_23 R S w h.is hk
  · exact bent_24 R S w h.is hk
  · exact bent_25 R S w h.is hk
  · exact bent_26 R S w h.is hk
  · exact bent_27 R S w h.is hk
theorem rput_len {R : Rec} (hr : rightR R = true) (hk : R.Ok) : 3 ≤ (putR R).length ∧ (putR R).length ≤ 1002 := by
  have h1 := body_len hr
  have h2 : 1 ≤ (bodyL R).length := by unfold bodyL; simp
  rw [rput_yes hr, List.length_append, be_length]
  omega
theorem zeros_news (w : World) : ∀ j u, (u8s [0, 0, 0])[j]? = some u → (w.alloc (.cells #[.int .u8 0, .int .u8 0, .int .u8 0] 5)).cell? ((⟨w.heap.size, 0, none⟩ : Addr).add j) = some u := by
  intro j u hu
  rw [Addr.add_mid, Nat.zero_add, (Blk.new w 5 _).cell]
  simpa [u8s] using hu
/-- A copy, and three zeros behind it. -/
theorem c9_cell {wr w5 w9 : World} {Ac A9 : Option Addr} {n cc c9 q : Nat} {ps : List Int} {o : Obj} (OC : OwnV w5 Ac n cc ps) (GC : ∀ g, Ac = some ⟨g, 0, none⟩ → wr.heap.size ≤ g) (Q5 : Turned (fun _ => False) wr w5) (o9 : OwnV w9 A9 (n + 3) c9 (ps ++ [0, 0, 0]))
    (a9 : (A9 = Ac ∧ c9 = cc ∧ Ac ≠ none ∧ Turned (fun g => Ac = some ⟨g, 0, none⟩) (w5.alloc o) w9) ∨ (A9 = some ⟨(w5.alloc o).heap.size, 0, none⟩ ∧ Turned (fun _ => False) (w5.alloc o) w9)) (hq : q < n + 3) :
    ∃ g, A9 = some ⟨g, 0, none⟩ ∧ RowB w9 5 g (n + 3) c9 (ps ++ [0, 0, 0]) ∧ wr.heap.size ≤ g ∧ Turned (fun _ => False) wr w9 := by
  obtain ⟨g, rfl, r⟩ := o9.some_ (by omega)
  have t6 := Q5.alloc o
  rcases a9 with ⟨e1, e2, _, t⟩ | ⟨e1, t⟩
  · have hg := GC g e1.symm
    exact ⟨g, rfl, r, hg, t6.trans (W := fun _ => False) t (fun _ e => e) (fun i e => .inr (GC i e))⟩
  · injection e1 with e1
    injection e1 with e1
    have := t6.size
    exact ⟨g, rfl, r, by omega, t6.and_ t⟩
/-! The full record. -/
def fullD (j : Nat) : List (Int × Int) := (List.range j).map fun (i : Nat) => (2 * (i : Int), (i : Int) + 1)
def fullO (j : Nat) : List (Int × Int) := (List.range j).map fun (i : Nat) => ((i : Int) + 1, 9)
theorem fullD_succ (j : Nat) : fullD (j + 1) = fullD j ++ [(2 * (j : Int), (j : Int) + 1)] := by simp [fullD, List.range_succ]
theorem fullO_succ (j : Nat) : fullO (j + 1) = fullO j ++ [((j : Int) + 1, 9)] := by simp [fullO, List.range_succ]
def fullR (ds os : List (Int × Int)) : Rec := ⟨0, 0, 0, 0, 5, 0, [], [], [], ds, os⟩
def fullC (d p : Value) : Array Value := #[.int .i64 0, .int .i64 0, .int .i64 0, .int .i64 0, .int .u8 5, .int .i64 0, .slice none 0 0, .slice none 0 0, .slice none 0 0, d, p]
theorem fullC_set9 (d p v : Value) : (fullC d p).setIfInBounds 9 v = fullC v p := by unfold fullC; simp only [List.setIfInBounds_toArray, List.set_cons_zero, List.set_cons_succ]
theorem fullC_set10 (d p v : Value) : (fullC d p).setIfInBounds 10 v = fullC d v := by unfold fullC; simp only [List.setIfInBounds_toArray, List.set_cons_zero, List.set_cons_succ]
def fullS (AD AP : Option Addr) (nD cD nP cP : Nat) : RecS := ⟨⟨none, 0, 0⟩, ⟨none, 0, 0⟩, ⟨none, 0, 0⟩, ⟨AD, nD, cD⟩, ⟨AP, nP, cP⟩⟩
theorem full_is {w : World} {ds os : List (Int × Int)} {AD AP : Option Addr} {nD cD nP cP : Nat} (hD : OwnE w 52 2 AD nD cD (pairC ds)) (hP : OwnE w 54 2 AP nP cP (pairC os)) (h1 : nD ≤ 1000000) (h2 : nP ≤ 1000000) : RecIs w (fullR ds os) (fullS AD AP nD cD nP cP) :=
  ⟨SlB.none0 w, SlB.none0 w, SlB.none0 w, OwnE.slP (s := ⟨AD, nD, cD⟩) hD h1, OwnE.slP (s := ⟨AP, nP, cP⟩) hP h2⟩
set_option maxRecDepth 100000 in
theorem full_right : rightR (fullR (fullD 32) (fullO 8)) = true := by decide +kernel
set_option maxRecDepth 100000 in
theorem over_wrong : rightR (fullR (fullD 32) (fullO 8 ++ [(9, 9)])) = false := by decide +kernel
set_option maxRecDepth 100000 in
theorem more_wrong : rightR (fullR (fullD 32 ++ [(99, 9)]) (fullO 8)) = false := by decide +kernel
set_option maxRecDepth 100000 in
theorem full_len : (putR (fullR (fullD 32) (fullO 8))).length = 455 := by decide +kernel
theorem full_ok : (fullR (fullD 32) (fullO 8)).Ok := by
  refine ⟨⟨by decide, by decide⟩, ⟨by decide, by decide⟩, ⟨by decide, by decide⟩, ⟨by decide, by decide⟩, ⟨by decide, by decide⟩, ⟨by decide, by decide⟩, fun z hz => absurd hz (by simp [fullR]), fun z hz => absurd hz (by simp [fullR]), fun z hz => absurd hz (by simp [fullR]), ?_, ?_⟩
  · intro p hp
    obtain ⟨i, hi, rfl⟩ := List.mem_map.1 hp
    have := List.mem_range.1 hi
    unfold I64
    exact ⟨⟨by omega, by omega⟩, by omega, by omega⟩
  · intro p hp
    obtain ⟨i, hi, rfl⟩ := List.mem_map.1 hp
    have := List.mem_range.1 hi
    unfold I64
    exact ⟨⟨by omega, by omega⟩, (show (-9223372036854775808 : Int) ≤ 9 by decide), (show (9 : Int) ≤ 9223372036854775807 by decide)⟩
def FullRel (b : Nat) (w5 : World) (i : Value) (wr : World) : Prop := ∃ j : Nat, j ≤ 32 ∧ i = .int .i64 j ∧ ∃ AD cD AP cP, Blk wr b 29 (fullC (.slice AD j cD) (.slice AP (min j 8) cP)) ∧
  OwnE wr 52 2 AD j cD (pairC (fullD j)) ∧ OwnE wr 54 2 AP (min j 8) cP (pairC (fullO (min j 8))) ∧ (∀ g, AD = some ⟨g, 0, none⟩ → w5.heap.size ≤ g) ∧ (∀ g, AP = some ⟨g, 0, none⟩ → w5.heap.size ≤ g) ∧ w5.heap.size ≤ b ∧ Turned (fun _ => False) w5 wr
theorem set_bytes {zs : List Int} {q : Nat} {z : Int} (h : ∀ y ∈ zs, isByte y) (hz : isByte z) : ∀ y ∈ zs.set q z, isByte y := by
  intro y hy
  rcases List.mem_or_eq_of_mem_set hy with h1 | rfl
  · exact h y h1
  · exact hz
theorem own_ne {w : World} {U V q r : Nat} {A B : Option Addr} {n m c d : Nat} {xs ys : List Value} (h : OwnE w U q A n c xs) (k : OwnE w V r B m d ys) (hUV : U ≠ V) {g : Nat} (e : A = some ⟨g, 0, none⟩) (e2 : B = some ⟨g, 0, none⟩) : False := by
  subst e e2
  obtain ⟨cs, hb, _⟩ := h.row.row
  obtain ⟨cs2, hb2, _⟩ := k.row.row
  exact hUV (Blk.inj hb hb2).2
theorem full_rel {b j m cD cP : Nat} {w5 w' : World} {AD AP : Option Addr} (hj : j < 32) (hm : m = min (j + 1) 8) (hB : Blk w' b 29 (fullC (.slice AD (j + 1) cD) (.slice AP m cP))) (oD : OwnE w' 52 2 AD (j + 1) cD (pairC (fullD (j + 1)))) (oP : OwnE w' 54 2 AP m cP (pairC (fullO m)))
    (gD : ∀ g, AD = some ⟨g, 0, none⟩ → w5.heap.size ≤ g) (gP : ∀ g, AP = some ⟨g, 0, none⟩ → w5.heap.size ≤ g) (hb : w5.heap.size ≤ b) (t : Turned (fun _ => False) w5 w') : FullRel b w5 (.int .i64 ((j + 1 : Nat) : Int)) w' := by
  subst hm
  exact ⟨j + 1, by omega, rfl, AD, cD, AP, cP, hB, oD, oP, gD, gP, hb, t⟩
/-- One append to a list of the boxed record, and its store. -/
theorem full_put9 {wr w2 w5 : World} {b j cD cP c2 m : Nat} {AD AP A2 : Option Addr} {o : Obj} (hB : Blk wr b 29 (fullC (.slice AD j cD) (.slice AP m cP))) (oD : OwnE wr 52 2 AD j cD (pairC (fullD j))) (oP : OwnE wr 54 2 AP m cP (pairC (fullO m)))
    (gD : ∀ g, AD = some ⟨g, 0, none⟩ → w5.heap.size ≤ g) (hb : w5.heap.size ≤ b) (t : Turned (fun _ => False) w5 wr) (o2 : OwnE w2 52 2 A2 (j + 1) c2 (pairC (fullD j) ++ [.int .i64 (2 * (j : Int)), .int .i64 ((j : Int) + 1)])) (a2 : App2 (wr.alloc o) w2 AD A2 cD c2) :
    Blk w2 b 29 (fullC (.slice AD j cD) (.slice AP m cP)) ∧ Blk (w2.setCell ⟨b, 9, none⟩ (.slice A2 (j + 1) c2)) b 29 (fullC (.slice A2 (j + 1) c2) (.slice AP m cP)) ∧ OwnE (w2.setCell ⟨b, 9, none⟩ (.slice A2 (j + 1) c2)) 52 2 A2 (j + 1) c2 (pairC (fullD (j + 1))) ∧
      OwnE (w2.setCell ⟨b, 9, none⟩ (.slice A2 (j + 1) c2)) 54 2 AP m cP (pairC (fullO m)) ∧ (∀ g, A2 = some ⟨g, 0, none⟩ → w5.heap.size ≤ g) ∧ Turned (fun _ => False) w5 (w2.setCell ⟨b, 9, none⟩ (.slice A2 (j + 1) c2)) := by
  have ta := (Turned.refl (fun _ => False) wr).alloc o
  have hB2 := (hB.alloc o).turned a2.turned (fun e => oD.blk hB (by decide) e rfl)
  have oP2 := (oP.fresh ta).turned a2.turned (fun g e e2 => own_ne oP oD (by decide) e e2)
  obtain ⟨m1, m2⟩ := a2.mine (t.alloc o) gD
  have tS := (Turned.refl (fun i => i = b) w2).setCell (p := ⟨b, 9, none⟩) (.inl rfl) (.slice A2 (j + 1) c2)
  have hB3 := hB2.set_ 9 (.slice A2 (j + 1) c2)
  rw [fullC_set9] at hB3
  rw [show pairC (fullD j) ++ [.int .i64 (2 * (j : Int)), .int .i64 ((j : Int) + 1)] = pairC (fullD (j + 1)) by rw [fullD_succ, pairC_append]; rfl] at o2
  exact ⟨hB2, hB3, o2.turned tS (fun g e e2 => o2.blk hB2 (by decide) e e2), oP2.turned tS (fun g e e2 => oP2.blk hB2 (by decide) e e2), m2, m1.setCell (p := ⟨b, 9, none⟩) (.inr hb) _⟩
theorem full_put10 {wr w2 w5 : World} {b j cD cP c2 : Nat} {AD AP A2 : Option Addr} {o : Obj} {n : Nat} (hB : Blk wr b 29 (fullC (.slice AD n cD) (.slice AP j cP))) (oD : OwnE wr 52 2 AD n cD (pairC (fullD n))) (oP : OwnE wr 54 2 AP j cP (pairC (fullO j)))
    (gP : ∀ g, AP = some ⟨g, 0, none⟩ → w5.heap.size ≤ g) (hb : w5.heap.size ≤ b) (t : Turned (fun _ => False) w5 wr) (o2 : OwnE w2 54 2 A2 (j + 1) c2 (pairC (fullO j) ++ [.int .i64 ((j : Int) + 1), .int .i64 9])) (a2 : App2 (wr.alloc o) w2 AP A2 cP c2) :
    Blk w2 b 29 (fullC (.slice AD n cD) (.slice AP j cP)) ∧ Blk (w2.setCell ⟨b, 10, none⟩ (.slice A2 (j + 1) c2)) b 29 (fullC (.slice AD n cD) (.slice A2 (j + 1) c2)) ∧ OwnE (w2.setCell ⟨b, 10, none⟩ (.slice A2 (j + 1) c2)) 52 2 AD n cD (pairC (fullD n)) ∧
      OwnE (w2.setCell ⟨b, 10, none⟩ (.slice A2 (j + 1) c2)) 54 2 A2 (j + 1) c2 (pairC (fullO (j + 1))) ∧ (∀ g, A2 = some ⟨g, 0, none⟩ → w5.heap.size ≤ g) ∧ Turned (fun _ => False) w5 (w2.setCell ⟨b, 10, none⟩ (.slice A2 (j + 1) c2)) := by
  have ta := (Turned.refl (fun _ => False) wr).alloc o
  have hB2 := (hB.alloc o).turned a2.turned (fun e => oP.blk hB (by decide) e rfl)
  have oD2 := (oD.fresh ta).turned a2.turned (fun g e e2 => own_ne oD oP (by decide) e e2)
  obtain ⟨m1, m2⟩ := a2.mine (t.alloc o) gP
  have tS := (Turned.refl (fun i => i = b) w2).setCell (p := ⟨b, 10, none⟩) (.inl rfl) (.slice A2 (j + 1) c2)
  have hB3 := hB2.set_ 10 (.slice A2 (j + 1) c2)
  rw [fullC_set10] at hB3
  rw [show pairC (fullO j) ++ [.int .i64 ((j : Int) + 1), .int .i64 9] = pairC (fullO (j + 1)) by rw [fullO_succ, pairC_append]; rfl] at o2
  exact ⟨hB2, hB3, oD2.turned tS (fun g e e2 => oD2.blk hB2 (by decide) e e2), o2.turned tS (fun g e e2 => o2.blk hB2 (by decide) e e2), m2, m1.setCell (p := ⟨b, 10, none⟩) (.inr hb) _⟩
set_option maxRecDepth 100000 in
set_option maxHeartbeats 4000000 in
theorem recordNumbers_any (w : World) : Calls Tryz.prog 5 #[] w (OkNew w) := by
  go_enter Tryz.func5, Tryz.ntmps5
  go_wp2_with fail
  refine (some_any w).mono ?_
  rintro e w1 ⟨g, S, rfl, hcel, hrec, t1⟩
  have HC0 := Lib.hid hcel
  have HR0 := Lib.hid hrec
  have T1 := Lib.hid t1
  clear hcel hrec t1
  go_wp2_with fail
  go_loopw [2] (fun i wr => ∃ k : Nat, k ≤ 8 ∧ i = .int .i64 k ∧ Turned (fun _ => False) w1 wr) (fun i _ => 8 - (intOf i).toNat)
  case atStart => exact ⟨0, by omega, rfl, Turned.refl _ _⟩
  case round =>
    obtain ⟨i, hi, rfl, ti⟩ := hrel
    have Ti := Lib.hid ti
    clear ti
    by_cases hlt8 : i < 8
    · skip
      have hi8 : (i : Int) < 8 := by omega
      have HRi := Lib.hid (someR_right i)
      have HOi := Lib.hid (someR_ok i)
      have HC := Lib.hid (fun (w' : World) (t : Turned (fun _ => False) w1 w') => (HC0.out i hlt8).fresh t)
      have HB := Lib.hid (fun (w' : World) (t : Turned (fun _ => False) w1 w') => (HR0.out i hlt8).fresh t)
      generalize someR i = R at HRi HOi HC HB
      generalize S i = Sc at HC HB
      obtain ⟨lsn, work, prev, next, kind, page, key, old, new, dirty, opn⟩ := R
      obtain ⟨⟨KA, Kn, Kc⟩, ⟨OA, On, Oc⟩, ⟨NA, Nn, Nc⟩, ⟨DA, Dn, Dc⟩, ⟨PA, Pn, Pc⟩⟩ := Sc
      go_wp2_with fail
      go_loopw [3] (fun n wr => ∃ k : Nat, k ≤ 28 ∧ n = .int .i64 k ∧ Turned (fun _ => False) w1 wr) (fun n _ => 28 - (intOf n).toNat)
      case atStart => exact ⟨0, by omega, rfl, Ti.out⟩
      case round =>
        obtain ⟨n, hn, rfl, tn⟩ := hrel
        have Tn := Lib.hid tn
        clear tn
        by_cases hlt28 : n < 28
        · have hn28 : (n : Int) < 28 := by omega
          have hcl := HC.out _ Tn.out
          have x0 : wr.cell? ⟨g, i * 11, none⟩ = some (.int .i64 lsn) := hcl 0 (by decide)
          have x1 : wr.cell? ⟨g, i * 11 + 1, none⟩ = some (.int .i64 work) := hcl 1 (by decide)
          have x2 : wr.cell? ⟨g, i * 11 + 2, none⟩ = some (.int .i64 prev) := hcl 2 (by decide)
          have x3 : wr.cell? ⟨g, i * 11 + 3, none⟩ = some (.int .i64 next) := hcl 3 (by decide)
          have x4 : wr.cell? ⟨g, i * 11 + 4, none⟩ = some (.int .u8 kind) := hcl 4 (by decide)
          have x5 : wr.cell? ⟨g, i * 11 + 5, none⟩ = some (.int .i64 page) := hcl 5 (by decide)
          have x6 : wr.cell? ⟨g, i * 11 + 6, none⟩ = some (.slice KA Kn Kc) := hcl 6 (by decide)
          have x7 : wr.cell? ⟨g, i * 11 + 7, none⟩ = some (.slice OA On Oc) := hcl 7 (by decide)
          have x8 : wr.cell? ⟨g, i * 11 + 8, none⟩ = some (.slice NA Nn Nc) := hcl 8 (by decide)
          have x9 : wr.cell? ⟨g, i * 11 + 9, none⟩ = some (.slice DA Dn Dc) := hcl 9 (by decide)
          have x10 : wr.cell? ⟨g, i * 11 + 10, none⟩ = some (.slice PA Pn Pc) := hcl 10 (by decide)
          clear hcl
          go_wp2_with fail
          clear x0 x1 x2 x3 x4 x5 x6 x7 x8 x9 x10
          have hbn := bent_any ⟨lsn, work, prev, next, kind, page, key, old, new, dirty, opn⟩ ⟨⟨KA, Kn, Kc⟩, ⟨OA, On, Oc⟩, ⟨NA, Nn, Nc⟩, ⟨DA, Dn, Dc⟩, ⟨PA, Pn, Pc⟩⟩ wr (HB.out _ Tn.out) HOi.out n hlt28
          unfold recC at hbn
          simp only at hbn
          refine hbn.mono ?_
          clear hbn
          unfold BentP
          rintro e w3 ⟨R3, S3, rfl, is3, ok3, t3⟩
          have T3 := Lib.hid (Tn.out.and_ t3)
          have I3 := Lib.hid is3
          clear t3 is3 Tn
          unfold recC
          go_wp2_with fail
          have hpp := recordPuts_any R3 S3 w3 I3.out ok3
          unfold recC at hpp
          refine hpp.mono ?_
          clear hpp
          rintro e w4 ⟨rfl, t4⟩
          have T4 := Lib.hid (T3.out.and_ t4)
          clear t4 T3 I3 ok3
          go_wp2_with fail
          go_roundw
          case rel =>
            first
            | exact ⟨n + 1, by omega, by go_num, T4.out⟩
            | ((repeat apply Exists.intro); exact ⟨⟨n + 1, by omega, by go_num, T4.out⟩, rfl⟩)
          case measure => simp [intOf] <;> omega
        · have hn28 : (28 : Int) ≤ (n : Int) := by omega
          have hcl := HC.out _ Tn.out
          have x0 : wr.cell? ⟨g, i * 11, none⟩ = some (.int .i64 lsn) := hcl 0 (by decide)
          have x1 : wr.cell? ⟨g, i * 11 + 1, none⟩ = some (.int .i64 work) := hcl 1 (by decide)
          have x2 : wr.cell? ⟨g, i * 11 + 2, none⟩ = some (.int .i64 prev) := hcl 2 (by decide)
          have x3 : wr.cell? ⟨g, i * 11 + 3, none⟩ = some (.int .i64 next) := hcl 3 (by decide)
          have x4 : wr.cell? ⟨g, i * 11 + 4, none⟩ = some (.int .u8 kind) := hcl 4 (by decide)
          have x5 : wr.cell? ⟨g, i * 11 + 5, none⟩ = some (.int .i64 page) := hcl 5 (by decide)
          have x6 : wr.cell? ⟨g, i * 11 + 6, none⟩ = some (.slice KA Kn Kc) := hcl 6 (by decide)
          have x7 : wr.cell? ⟨g, i * 11 + 7, none⟩ = some (.slice OA On Oc) := hcl 7 (by decide)
          have x8 : wr.cell? ⟨g, i * 11 + 8, none⟩ = some (.slice NA Nn Nc) := hcl 8 (by decide)
          have x9 : wr.cell? ⟨g, i * 11 + 9, none⟩ = some (.slice DA Dn Dc) := hcl 9 (by decide)
          have x10 : wr.cell? ⟨g, i * 11 + 10, none⟩ = some (.slice PA Pn Pc) := hcl 10 (by decide)
          clear hcl
          go_wp2_with fail
          clear x0 x1 x2 x3 x4 x5 x6 x7 x8 x9 x10
          have hp := rput_any ⟨lsn, work, prev, next, kind, page, key, old, new, dirty, opn⟩ ⟨⟨KA, Kn, Kc⟩, ⟨OA, On, Oc⟩, ⟨NA, Nn, Nc⟩, ⟨DA, Dn, Dc⟩, ⟨PA, Pn, Pc⟩⟩ wr (HB.out _ Tn.out).is
          unfold RPut recC at hp
          simp only at hp
          rw [HRi.out] at hp
          simp only [if_true] at hp
          refine hp.mono ?_
          clear hp
          have hl2 := rput_len HRi.out HOi.out
          have hpb := Lib.hid (putR_bytes HRi.out HOi.out)
          generalize putR ⟨lsn, work, prev, next, kind, page, key, old, new, dirty, opn⟩ = ps at hl2 hpb
          rintro e w3 ⟨Ab, cb, rfl, ob, gb, t3⟩
          have T3 := Lib.hid (Tn.out.and_ t3)
          have OB := Lib.hid ob
          clear ob gb t3 Tn
          obtain ⟨hl2, hl3⟩ := hl2
          have hcl := HC.out _ T3.out
          have x0 : w3.cell? ⟨g, i * 11, none⟩ = some (.int .i64 lsn) := hcl 0 (by decide)
          have x1 : w3.cell? ⟨g, i * 11 + 1, none⟩ = some (.int .i64 work) := hcl 1 (by decide)
          have x2 : w3.cell? ⟨g, i * 11 + 2, none⟩ = some (.int .i64 prev) := hcl 2 (by decide)
          have x3 : w3.cell? ⟨g, i * 11 + 3, none⟩ = some (.int .i64 next) := hcl 3 (by decide)
          have x4 : w3.cell? ⟨g, i * 11 + 4, none⟩ = some (.int .u8 kind) := hcl 4 (by decide)
          have x5 : w3.cell? ⟨g, i * 11 + 5, none⟩ = some (.int .i64 page) := hcl 5 (by decide)
          have x6 : w3.cell? ⟨g, i * 11 + 6, none⟩ = some (.slice KA Kn Kc) := hcl 6 (by decide)
          have x7 : w3.cell? ⟨g, i * 11 + 7, none⟩ = some (.slice OA On Oc) := hcl 7 (by decide)
          have x8 : w3.cell? ⟨g, i * 11 + 8, none⟩ = some (.slice NA Nn Nc) := hcl 8 (by decide)
          have x9 : w3.cell? ⟨g, i * 11 + 9, none⟩ = some (.slice DA Dn Dc) := hcl 9 (by decide)
          have x10 : w3.cell? ⟨g, i * 11 + 10, none⟩ = some (.slice PA Pn Pc) := hcl 10 (by decide)
          clear hcl
          go_wp2_with fail
          clear x0 x1 x2 x3 x4 x5 x6 x7 x8 x9 x10
          have hr := right_any ⟨lsn, work, prev, next, kind, page, key, old, new, dirty, opn⟩ ⟨⟨KA, Kn, Kc⟩, ⟨OA, On, Oc⟩, ⟨NA, Nn, Nc⟩, ⟨DA, Dn, Dc⟩, ⟨PA, Pn, Pc⟩⟩ w3 (HB.out _ T3.out).is
          unfold recC at hr
          simp only at hr
          rw [HRi.out] at hr
          refine hr.mono ?_
          clear hr
          rintro e w4 ⟨rfl, t4⟩
          have T4 := Lib.hid (T3.out.and_ t4)
          have OB := Lib.hid (OB.out.turned t4 (fun _ _ e => e))
          clear t4 T3
          go_wp2_with fail
          go_loopw [6] (fun n wr => ∃ k : Nat, k ≤ ps.length + 1 ∧ n = .int .i64 k ∧ Turned (fun _ => False) w4 wr) (fun n _ => ps.length + 1 - (intOf n).toNat)
          case atStart => exact ⟨0, by omega, rfl, Turned.refl _ _⟩
          case round =>
            obtain ⟨k, hk, rfl, tk⟩ := hrel
            have Tk := Lib.hid tk
            clear tk
            by_cases hkl : k ≤ ps.length
            · have hkl2 : (k : Int) ≤ (ps.length : Int) := by omega
              have hob := (OB.out.turned Tk.out (fun _ _ e => e))
              have hmx := hob.max
              have hkc : (k : Int) ≤ (cb : Int) := by omega
              have hy := Lib.hid (show BytS wr Ab k cb (ps.take k) from ⟨hob.bytS'.toBytR.head (by omega), fun e => by have := hob.bytS'.nil_ e; omega⟩)
              have hm1 := Lib.hid hmx
              clear hob hmx
              go_wp2_with fail
              refine (recordGets_any Ab k cb (ps.take k) wr hy.out (fun z hz => hpb.out z (List.mem_of_mem_take hz)) (by omega) hm1.out.2 (by omega)).mono ?_
              rintro e w5 ⟨rfl, t5⟩
              have T5 := Lib.hid (Tk.out.and_ t5)
              clear t5 hy
              go_wp2_with fail
              go_roundw
              case rel =>
                first
                | exact ⟨k + 1, by omega, by go_num, T5.out⟩
                | ((repeat apply Exists.intro); exact ⟨⟨k + 1, by omega, by go_num, T5.out⟩, rfl⟩)
              case measure => simp [intOf] <;> omega
            · have hkl2 : (ps.length : Int) < (k : Int) := by omega
              obtain ⟨mn, hmn⟩ : ∃ mn : Nat, mn = min ps.length 60 := ⟨_, rfl⟩
              have hmn2 : min (ps.length : Int) 60 = (mn : Int) := by omega
              have hmn3 : mn ≤ ps.length := by omega
              have Hmn := Lib.hid hmn3
              clear hmn
              go_wp2_with fail
              go_loopw [7] (fun n wr => ∃ k : Nat, k ≤ mn ∧ n = .int .i64 k ∧ Turned (fun _ => False) w4 wr) (fun n _ => mn - (intOf n).toNat)
              case atStart => exact ⟨0, by omega, rfl, Tk.out⟩
              case round =>
                obtain ⟨q, hq, rfl, tq⟩ := hrel
                have Tq := Lib.hid tq
                clear tq
                by_cases hqm : q < mn
                · have hqm2 : (q : Int) < (mn : Int) := by omega
                  go_wp2_with fail
                  go_loopw [8] (fun n wr => ∃ k : Nat, 1 ≤ k ∧ k ≤ 511 ∧ n = .int .i64 k ∧ Turned (fun _ => False) w4 wr) (fun n _ => 512 - (intOf n).toNat)
                  case atStart => exact ⟨1, by omega, by omega, rfl, Tq.out⟩
                  case round =>
                    obtain ⟨d, hd1, hd, rfl, td⟩ := hrel
                    have Td := Lib.hid td
                    clear td
                    by_cases hdl : d < 256
                    · have hdl2 : (d : Int) < 256 := by omega
                      go_wp2_with fail
                      refine (copyB_any Ab ps.length cb ps wr (OB.out.turned Td.out (fun _ _ e => e)).bytS' (by omega) (by omega)).mono ?_
                      rintro e w5 ⟨Ac, cc, rfl, oc, gc, t5⟩
                      have T5 := Lib.hid (Td.out.and_ t5)
                      have OC := Lib.hid oc
                      have GC := Lib.hid gc
                      have Q5 := Lib.hid t5
                      clear oc gc t5
                      go_wp2_with (at_builtin; refine wpList_app2 bytT rfl (.tmp 77) (.tmp 78) rfl (OC.out.turned ((Turned.refl (fun _ => False) w5).alloc (.cells #[.int .u8 0, .int .u8 0, .int .u8 0] 5)) (fun _ _ e => e)) ⟨w5.heap.size, 0, none⟩ 3 3 [0, 0, 0] rfl (zeros_news w5) (by omega) (by omega) rfl rfl ?_; intro A9 c9 w9 o9 a9; have hc9 := c9_cell OC.out GC.out Q5.out o9 a9 (q := q) (by omega); obtain ⟨g9, e9, r9, hg9, t9⟩ := hc9; subst e9; have R9 := Lib.hid r9; have T9 := Lib.hid (Td.out.and_ t9); have xq := r9.cell (i := q) (by omega); have xg := r9.frozen q; clear r9 t9 a9 o9)
                      refine (recordGets_any (some ⟨g9, 0, none⟩) (ps.length + 3) c9 _ _ ((R9.out.set q _).bytS c9) ?_ R9.out.le R9.out.max (by omega)).mono ?_
                      · exact set_bytes (app_bytes hpb.out (by unfold isByte; decide)) ⟨by omega, by omega⟩
                      · skip
                        rintro e w10 ⟨rfl, t10⟩
                        have s1 := Td.out.size
                        have T10 := Lib.hid ((T9.out.setCell (p := ⟨g9, q, none⟩) (.inr (show w4.heap.size ≤ g9 by omega)) _).and_ t10)
                        clear t10 s1 xq xg T9 R9 hg9
                        go_wp2_with fail
                        go_roundw
                        case rel =>
                          first
                          | exact ⟨2 * d + 1, by omega, by omega, by go_num, T10.out⟩
                          | ((repeat apply Exists.intro); exact ⟨⟨2 * d + 1, by omega, by omega, by go_num, T10.out⟩, rfl⟩)
                        case measure => simp [intOf] <;> omega
                    · have hdl2 : (256 : Int) ≤ (d : Int) := by omega
                      go_wp2_with fail
                      go_roundw
                      case rel =>
                        first
                        | exact ⟨q + 1, by omega, by go_num, Td.out⟩
                        | ((repeat apply Exists.intro); exact ⟨⟨q + 1, by omega, by go_num, Td.out⟩, rfl⟩)
                      case measure => simp [intOf] <;> omega
                · have hqm2 : (mn : Int) ≤ (q : Int) := by omega
                  have TT := Lib.hid (T4.out.and_ Tq.out)
                  go_wp2_with fail
                  go_roundw
                  case rel =>
                    first
                    | exact ⟨i + 1, by omega, by go_num, TT.out⟩
                    | ((repeat apply Exists.intro); exact ⟨⟨i + 1, by omega, by go_num, TT.out⟩, rfl⟩)
                  case measure => simp [intOf] <;> omega
    · have hi8 : (8 : Int) ≤ (i : Int) := by omega
      generalize wr = w5 at *
      have Bx := Lib.hid (show Blk (w5.alloc (.cells (fullC (.slice none 0 0) (.slice none 0 0)) 29)) w5.heap.size 29 (fullC (.slice none 0 0) (.slice none 0 0)) from Blk.new _ _ _)
      have tx := (Turned.refl (fun _ => False) w5).alloc (.cells (fullC (.slice none 0 0) (.slice none 0 0)) 29)
      have T5 := Lib.hid (T1.out.and_ Ti.out)
      clear Ti T1 HC0 HR0
      unfold fullC at Bx tx
      go_upto_region 29 with fail
      have Tx := Lib.hid tx
      clear tx
      generalize w5.alloc (.cells #[.int .i64 0, .int .i64 0, .int .i64 0, .int .i64 0, .int .u8 5, .int .i64 0, .slice none 0 0, .slice none 0 0, .slice none 0 0, .slice none 0 0, .slice none 0 0] 29) = wx at *
      obtain ⟨b, hb⟩ : ∃ b, b = w5.heap.size := ⟨_, rfl⟩
      rw [← hb] at Bx ⊢
      have hbs := Lib.hid (show w5.heap.size ≤ b by omega)
      clear hb
      go_wp2_with fail
      go_loopw [11] (fun i w' => FullRel b w5 i w') (fun i _ => 32 - (intOf i).toNat)
      case atStart => exact ⟨0, by omega, rfl, none, 0, none, 0, Bx.out, OwnE.nil _ _ _, OwnE.nil _ _ _, fun g e => (by cases e), fun g e => (by cases e), hbs.out, Tx.out⟩
      case round =>
        obtain ⟨j, hj, rfl, AD, cD, AP, cP, hB, oD, oP, gD, gP, _, tj⟩ := hrel
        have hB := Lib.hid hB
        have oD := Lib.hid oD
        have oP := Lib.hid oP
        have gD := Lib.hid gD
        have gP := Lib.hid gP
        have Tj := Lib.hid tj
        clear tj
        by_cases hlt32 : j < 32
        · have hj32 : (j : Int) < 32 := by omega
          obtain ⟨m, hm0⟩ : ∃ m, m = min j 8 := ⟨_, rfl⟩
          rw [← hm0] at hB oP
          have hm := Lib.hid hm0
          clear hm0
          have x9 : wr.cell? ⟨b, 9, none⟩ = some (.slice AD j cD) := hB.out.cell 9
          have x9a : (wr.alloc (.cells #[.int .i64 (2 * (j : Int)), .int .i64 ((j : Int) + 1)] 52)).cell? ⟨b, 9, none⟩ = some (.slice AD j cD) := (hB.out.alloc _).cell 9
          go_upto_region 33 with (at_builtin; refine wpList_appE dirtyT rfl (.tmp 99) (.tmp 105) rfl (oD.out.fresh ((Turned.refl (fun _ => False) wr).alloc (.cells #[.int .i64 (2 * (j : Int)), .int .i64 ((j : Int) + 1)] 52))) ⟨wr.heap.size, 0, none⟩ 1 1 [.int .i64 (2 * (j : Int)), .int .i64 ((j : Int) + 1)] rfl (news_new wr 52 [.int .i64 (2 * (j : Int)), .int .i64 ((j : Int) + 1)]) (by simp [Value.oneCell']) (by omega) (by unfold maxLen; omega) (by omega) rfl rfl ?_; intro A2 c2 w2 o2 a2; have hst := full_put9 hB.out oD.out oP.out gD.out hbs.out Tj.out o2 a2; have y9 : w2.cell? ⟨b, 9, none⟩ = some (.slice AD j cD) := hst.1.cell 9; have yf := hst.1.frozen; have Hst := Lib.hid hst; clear hst o2 a2)
          obtain ⟨_, hB3, oD3, oP3, gD3, t3⟩ := Hst.out
          have hB3 := Lib.hid hB3
          have oD3 := Lib.hid oD3
          have oP3 := Lib.hid oP3
          have gD3 := Lib.hid gD3
          have T3 := Lib.hid t3
          clear t3 Hst x9 x9a y9 yf hB oD oP gD Tj
          generalize w2.setCell ⟨b, 9, none⟩ (.slice A2 (j + 1) c2) = w3 at *
          by_cases hj8 : j < 8
          · have hj8i : (j : Int) < 8 := by omega
            obtain rfl : m = j := by have := hm.out; omega
            have x10 : w3.cell? ⟨b, 10, none⟩ = some (.slice AP m cP) := hB3.out.cell 10
            have x10a : (w3.alloc (.cells #[.int .i64 ((m : Int) + 1), .int .i64 9] 54)).cell? ⟨b, 10, none⟩ = some (.slice AP m cP) := (hB3.out.alloc _).cell 10
            go_wp2_with (at_builtin; refine wpList_appE openT rfl (.tmp 111) (.tmp 115) rfl (oP3.out.fresh ((Turned.refl (fun _ => False) w3).alloc (.cells #[.int .i64 ((m : Int) + 1), .int .i64 9] 54))) ⟨w3.heap.size, 0, none⟩ 1 1 [.int .i64 ((m : Int) + 1), .int .i64 9] rfl (news_new w3 54 [.int .i64 ((m : Int) + 1), .int .i64 9]) (by simp [Value.oneCell']) (by omega) (by unfold maxLen; omega) (by omega) rfl rfl ?_; intro A4 c4 w4 o4 a4; have hst := full_put10 hB3.out oD3.out oP3.out gP.out hbs.out T3.out o4 a4; have y10 : w4.cell? ⟨b, 10, none⟩ = some (.slice AP m cP) := hst.1.cell 10; have yf := hst.1.frozen; have Hst := Lib.hid hst; clear hst o4 a4)
            obtain ⟨_, hB4, oD4, oP4, gP4, t4⟩ := Hst.out
            have hR := Lib.hid (full_rel (by omega) (by omega) hB4 oD4 oP4 gD3.out gP4 hbs.out t4)
            clear hB4 oD4 oP4 gP4 t4 Hst
            go_roundw
            case rel => exact hR.out
            case measure => simp [intOf] <;> omega
          · have hj8i : (8 : Int) ≤ (j : Int) := by omega
            have hR := Lib.hid (full_rel (by omega) (by have := hm.out; omega) hB3.out oD3.out oP3.out gD3.out gP.out hbs.out T3.out)
            go_wp2_with fail
            go_roundw
            case rel => exact hR.out
            case measure => simp [intOf] <;> omega
        · have hj32 : (32 : Int) ≤ (j : Int) := by omega
          obtain rfl : j = 32 := by omega
          have hB : Hid (Blk wr b 29 (fullC (.slice AD 32 cD) (.slice AP 8 cP))) := hB
          have oP : Hid (OwnE wr 54 2 AP 8 cP (pairC (fullO 8))) := oP
          have his := full_is oD.out oP.out (by omega) (by omega)
          obtain ⟨x0, x1, x2, x3, x4, x5, x6, x7, x8, x9, x10⟩ := hB.out.cells11
          go_wp2_with fail
          clear x0 x1 x2 x3 x4 x5 x6 x7 x8 x9 x10
          have hp := rput_any (fullR (fullD 32) (fullO 8)) (fullS AD AP 32 cD 8 cP) wr his
          unfold RPut at hp
          rw [full_right, full_len] at hp
          simp only [if_true] at hp
          have hpb := Lib.hid (putR_bytes full_right full_ok)
          generalize putR (fullR (fullD 32) (fullO 8)) = pf at hp hpb
          unfold recC fullR fullS at hp
          simp only at hp
          refine hp.mono ?_
          clear hp his
          rintro e w7 ⟨Ab, cb, rfl, ob, gb, t7⟩
          have OB := Lib.hid ob
          have T7 := Lib.hid (Tj.out.and_ t7)
          have hB := Lib.hid (hB.out.turned t7 (fun e => e))
          have oD := Lib.hid (oD.out.fresh t7)
          have oP := Lib.hid (oP.out.fresh t7)
          have hbl := Lib.hid hB.out.lt
          clear ob gb t7 Tj
          obtain ⟨x0, x1, x2, x3, x4, x5, x6, x7, x8, x9, x10⟩ := hB.out.cells11
          go_upto_region 36 with fail
          go_cut [10, 12, 13, 14, 15] from 16 (fun u10 u12 u13 u14 u15 wc => ∃ b1 b2, u10 = .pointer (some ⟨b, 0, none⟩) ∧ u12 = .slice Ab 455 cb ∧ u13 = .int .i64 0 ∧ u14 = .pointer (some ⟨b1, 0, none⟩) ∧ u15 = .pointer (some ⟨b2, 0, none⟩) ∧ Blk wc b1 29 (fullC (.slice AD 32 cD) (.slice AP 8 cP)) ∧ Blk wc b2 29 (fullC (.slice AD 32 cD) (.slice AP 8 cP)) ∧ b1 ≠ b2 ∧ w7.heap.size ≤ b1 ∧ w7.heap.size ≤ b2 ∧ Turned (fun _ => False) w7 wc)
          case first =>
            have hh1 : Blk (w7.alloc (.cells #[.int .i64 0, .int .i64 0, .int .i64 0, .int .i64 0, .int .u8 0, .int .i64 0, .slice none 0 0, .slice none 0 0, .slice none 0 0, .slice none 0 0, .slice none 0 0] 29)) b 29 (fullC (.slice AD 32 cD) (.slice AP 8 cP)) := (hB.out.alloc _)
            obtain ⟨f1_0, f1_1, f1_2, f1_3, f1_4, f1_5, f1_6, f1_7, f1_8, f1_9, f1_10⟩ := hh1.cells11
            clear hh1
            have hh2 : Blk (w7.alloc (.cells #[.int .i64 0, .int .i64 0, .int .i64 0, .int .i64 0, .int .u8 5, .int .i64 0, .slice none 0 0, .slice none 0 0, .slice none 0 0, .slice AD 32 cD, .slice AP 8 cP] 29)) b 29 (fullC (.slice AD 32 cD) (.slice AP 8 cP)) := (hB.out.alloc _)
            obtain ⟨f2_0, f2_1, f2_2, f2_3, f2_4, f2_5, f2_6, f2_7, f2_8, f2_9, f2_10⟩ := hh2.cells11
            clear hh2
            have hh3 : Blk ((w7.alloc (.cells #[.int .i64 0, .int .i64 0, .int .i64 0, .int .i64 0, .int .u8 0, .int .i64 0, .slice none 0 0, .slice none 0 0, .slice none 0 0, .slice none 0 0, .slice none 0 0] 29)).alloc (.cells #[.int .i64 0, .int .i64 0, .int .i64 0, .int .i64 0, .int .u8 0, .int .i64 0, .slice none 0 0, .slice none 0 0, .slice none 0 0, .slice none 0 0, .slice none 0 0] 29)) b 29 (fullC (.slice AD 32 cD) (.slice AP 8 cP)) := ((hB.out.alloc _).alloc _)
            obtain ⟨f3_0, f3_1, f3_2, f3_3, f3_4, f3_5, f3_6, f3_7, f3_8, f3_9, f3_10⟩ := hh3.cells11
            clear hh3
            have hh4 : Blk ((w7.alloc (.cells #[.int .i64 0, .int .i64 0, .int .i64 0, .int .i64 0, .int .u8 0, .int .i64 0, .slice none 0 0, .slice none 0 0, .slice none 0 0, .slice none 0 0, .slice none 0 0] 29)).alloc (.cells #[.int .i64 0, .int .i64 0, .int .i64 0, .int .i64 0, .int .u8 5, .int .i64 0, .slice none 0 0, .slice none 0 0, .slice none 0 0, .slice AD 32 cD, .slice AP 8 cP] 29)) b 29 (fullC (.slice AD 32 cD) (.slice AP 8 cP)) := ((hB.out.alloc _).alloc _)
            obtain ⟨f4_0, f4_1, f4_2, f4_3, f4_4, f4_5, f4_6, f4_7, f4_8, f4_9, f4_10⟩ := hh4.cells11
            clear hh4
            have hh5 : Blk ((w7.alloc (.cells #[.int .i64 0, .int .i64 0, .int .i64 0, .int .i64 0, .int .u8 5, .int .i64 0, .slice none 0 0, .slice none 0 0, .slice none 0 0, .slice AD 32 cD, .slice AP 8 cP] 29)).alloc (.cells #[.int .i64 0, .int .i64 0, .int .i64 0, .int .i64 0, .int .u8 0, .int .i64 0, .slice none 0 0, .slice none 0 0, .slice none 0 0, .slice none 0 0, .slice none 0 0] 29)) b 29 (fullC (.slice AD 32 cD) (.slice AP 8 cP)) := ((hB.out.alloc _).alloc _)
            obtain ⟨f5_0, f5_1, f5_2, f5_3, f5_4, f5_5, f5_6, f5_7, f5_8, f5_9, f5_10⟩ := hh5.cells11
            clear hh5
            go_region
            all_goals go_wp2_with fail
            all_goals go_meet
            all_goals (apply Exists.intro; apply Exists.intro; refine ⟨rfl, rfl, rfl, rfl, rfl, ?_, ?_, ?_, ?_, ?_, ?_⟩; (focus (first | (refine Blk.drew (Blk.new_at _ _ _ ?_); simp; done) | (refine Blk.drew ((Blk.new_at _ _ _ ?_).alloc _); simp; done))); (focus (first | (refine Blk.drew (Blk.new_at _ _ _ ?_); simp; done) | (refine Blk.drew ((Blk.new_at _ _ _ ?_).alloc _); simp; done))); (focus omega); (focus omega); (focus omega); (focus (exact (((Turned.refl (fun _ => False) _).alloc _).alloc _).drew)))
          case rest =>
            obtain ⟨b1, b2, rfl, rfl, rfl, rfl, rfl, h1, h2, hne, g1, g2, tc⟩ := hcut
            clear x0 x1 x2 x3 x4 x5 x6 x7 x8 x9 x10
            have T8 := Lib.hid (T7.out.and_ tc)
            have hB := Lib.hid (hB.out.turned tc (fun e => e))
            have oD := Lib.hid (oD.out.fresh tc)
            have oP := Lib.hid (oP.out.fresh tc)
            have OB := Lib.hid (OB.out.turned tc (fun _ _ e => e))
            have h1 := Lib.hid h1
            have h2 := Lib.hid h2
            have hn1 := Lib.hid (show b ≠ b1 by have := hbl.out; omega)
            have hn2 := Lib.hid (show b ≠ b2 by have := hbl.out; omega)
            have hn3 := Lib.hid hne
            have s5 := Lib.hid T7.out.size
            have l1 := Lib.hid (show w5.heap.size ≤ b1 by have := s5.out; omega)
            have l2 := Lib.hid (show w5.heap.size ≤ b2 by have := s5.out; omega)
            clear hne g1 g2 tc T7
            obtain ⟨gp, rfl, rp⟩ := oP.out.some_ (by omega)
            obtain ⟨gd, rfl, rd⟩ := oD.out.some_ (by omega)
            clear rp rd
            have x : wc.cell? ⟨b, 10, none⟩ = some (.slice (some ⟨gp, 0, none⟩) 8 cP) := hB.out.cell 10
            have xa : (wc.alloc (.cells #[] 54)).cell? ⟨b, 10, none⟩ = some (.slice (some ⟨gp, 0, none⟩) 8 cP) := (hB.out.alloc _).cell 10
            go_upto_region 38 with (first | (at_builtin; refine wpList_appE openT rfl (.tmp 125) (.tmp 127) rfl (OwnE.of_row (RowE.new wc 54 2 0 #[] rfl (by decide))) ⟨gp, 0, none⟩ 8 cP (pairC (fullO 8)) (by rw [pairC_length]; rfl) ((oP.out.fresh ((Turned.refl (fun _ => False) wc).alloc (.cells #[] 54))).celR.news _ rfl) (pairC_one _) (by omega) (by decide) (by decide) rfl rfl ?_; intro A31 c31 w91 o3 a3; have O3 := Lib.hid o3; have M3 := Lib.hid (a3.mine (w0 := wc) ((Turned.refl (fun _ => False) wc).alloc _) (fun g e => by injection e with e; injection e with e; omega)); clear o3 a3) | (at_builtin; refine wpList_appE openT rfl (.tmp 128) (.tmp 130) rfl (O3.out.fresh ((Turned.refl (fun _ => False) w91).alloc (.cells #[.int .i64 9, .int .i64 9] 54))) ⟨w91.heap.size, 0, none⟩ 1 1 [.int .i64 9, .int .i64 9] rfl (news_new w91 54 [.int .i64 9, .int .i64 9]) (by simp [Value.oneCell']) (by omega) (by decide) (by decide) rfl rfl ?_; intro A41 c41 w101 o4 a4; have O4 := Lib.hid o4; have M4 := Lib.hid (a4.mine (w0 := wc) (M3.out.1.alloc _) M3.out.2); clear o4 a4; have hx4 := h1.out.turned M4.out.1 (fun e => e); have y : w101.cell? ⟨b1, 10, none⟩ = some (.slice (some ⟨gp, 0, none⟩) 8 cP) := hx4.cell 10; have yf := hx4.frozen; have HX := Lib.hid hx4; clear hx4))
            clear x xa y yf
            have tS := (Turned.refl (fun i => i = b1) w101).setCell (p := ⟨b1, 10, none⟩) (.inl rfl) (.slice A41 9 c41)
            have hx5 := HX.out.set_ 10 (.slice A41 9 c41)
            rw [fullC_set10] at hx5
            have tm := M4.out.1
            have hB := Lib.hid ((hB.out.turned tm (fun e => e)).turned tS hn1.out)
            have h2 := Lib.hid ((h2.out.turned tm (fun e => e)).turned tS hn3.out.symm)
            have h1 := Lib.hid hx5
            have OB := Lib.hid (OB.out.turned tm (fun _ _ e => e))
            have OB := Lib.hid (OB.out.turned tS (fun g e e2 => OB.out.blk HX.out (by decide) e e2))
            have oD := Lib.hid (oD.out.fresh tm)
            have oD := Lib.hid (oD.out.turned tS (fun g e e2 => oD.out.blk HX.out (by decide) e e2))
            have oP := Lib.hid (oP.out.fresh tm)
            have oP := Lib.hid (oP.out.turned tS (fun g e e2 => oP.out.blk HX.out (by decide) e e2))
            have oX := Lib.hid (show OwnE (w101.setCell ⟨b1, 10, none⟩ (.slice A41 9 c41)) 54 2 A41 9 c41 (pairC ((fullO 8) ++ [(9, 9)])) from (by have := O4.out.turned tS (fun g e e2 => O4.out.blk HX.out (by decide) e e2); rw [pairC_append]; exact this))
            have T8 := Lib.hid ((T8.out.and_ tm).setCell (p := ⟨b1, 10, none⟩) (.inr l1.out) (.slice A41 9 c41))
            clear tS hx5 tm O3 M3 O4 M4 HX
            generalize w101.setCell ⟨b1, 10, none⟩ (.slice A41 9 c41) = w111 at *
            have x : w111.cell? ⟨b, 9, none⟩ = some (.slice (some ⟨gd, 0, none⟩) 32 cD) := hB.out.cell 9
            have xa : (w111.alloc (.cells #[] 52)).cell? ⟨b, 9, none⟩ = some (.slice (some ⟨gd, 0, none⟩) 32 cD) := (hB.out.alloc _).cell 9
            go_upto_region 39 with (first | (at_builtin; refine wpList_appE dirtyT rfl (.tmp 133) (.tmp 135) rfl (OwnE.of_row (RowE.new w111 52 2 0 #[] rfl (by decide))) ⟨gd, 0, none⟩ 32 cD (pairC (fullD 32)) (by rw [pairC_length]; rfl) ((oD.out.fresh ((Turned.refl (fun _ => False) w111).alloc (.cells #[] 52))).celR.news _ rfl) (pairC_one _) (by omega) (by decide) (by decide) rfl rfl ?_; intro A32 c32 w92 o3 a3; have O3 := Lib.hid o3; have M3 := Lib.hid (a3.mine (w0 := w111) ((Turned.refl (fun _ => False) w111).alloc _) (fun g e => by injection e with e; injection e with e; omega)); clear o3 a3) | (at_builtin; refine wpList_appE dirtyT rfl (.tmp 136) (.tmp 138) rfl (O3.out.fresh ((Turned.refl (fun _ => False) w92).alloc (.cells #[.int .i64 99, .int .i64 9] 52))) ⟨w92.heap.size, 0, none⟩ 1 1 [.int .i64 99, .int .i64 9] rfl (news_new w92 52 [.int .i64 99, .int .i64 9]) (by simp [Value.oneCell']) (by omega) (by decide) (by decide) rfl rfl ?_; intro A42 c42 w102 o4 a4; have O4 := Lib.hid o4; have M4 := Lib.hid (a4.mine (w0 := w111) (M3.out.1.alloc _) M3.out.2); clear o4 a4; have hx4 := h2.out.turned M4.out.1 (fun e => e); have y : w102.cell? ⟨b2, 9, none⟩ = some (.slice (some ⟨gd, 0, none⟩) 32 cD) := hx4.cell 9; have yf := hx4.frozen; have HX := Lib.hid hx4; clear hx4))
            clear x xa y yf
            have tS := (Turned.refl (fun i => i = b2) w102).setCell (p := ⟨b2, 9, none⟩) (.inl rfl) (.slice A42 33 c42)
            have hx5 := HX.out.set_ 9 (.slice A42 33 c42)
            rw [fullC_set9] at hx5
            have tm := M4.out.1
            have hB := Lib.hid ((hB.out.turned tm (fun e => e)).turned tS hn2.out)
            have h1 := Lib.hid ((h1.out.turned tm (fun e => e)).turned tS hn3.out)
            have h2 := Lib.hid hx5
            have OB := Lib.hid (OB.out.turned tm (fun _ _ e => e))
            have OB := Lib.hid (OB.out.turned tS (fun g e e2 => OB.out.blk HX.out (by decide) e e2))
            have oD := Lib.hid (oD.out.fresh tm)
            have oD := Lib.hid (oD.out.turned tS (fun g e e2 => oD.out.blk HX.out (by decide) e e2))
            have oP := Lib.hid (oP.out.fresh tm)
            have oP := Lib.hid (oP.out.turned tS (fun g e e2 => oP.out.blk HX.out (by decide) e e2))
            have oX := Lib.hid (oX.out.fresh tm)
            have oX := Lib.hid (oX.out.turned tS (fun g e e2 => oX.out.blk HX.out (by decide) e e2))
            have oY := Lib.hid (show OwnE (w102.setCell ⟨b2, 9, none⟩ (.slice A42 33 c42)) 52 2 A42 33 c42 (pairC ((fullD 32) ++ [(99, 9)])) from (by have := O4.out.turned tS (fun g e e2 => O4.out.blk HX.out (by decide) e e2); rw [pairC_append]; exact this))
            have T8 := Lib.hid ((T8.out.and_ tm).setCell (p := ⟨b2, 9, none⟩) (.inr l2.out) (.slice A42 33 c42))
            clear tS hx5 tm O3 M3 O4 M4 HX
            generalize w102.setCell ⟨b2, 9, none⟩ (.slice A42 33 c42) = w112 at *
            obtain ⟨x0, x1, x2, x3, x4, x5, x6, x7, x8, x9, x10⟩ := h1.out.cells11
            obtain ⟨y0, y1, y2, y3, y4, y5, y6, y7, y8, y9, y10⟩ := h2.out.cells11
            go_wp2_with fail
            clear x0 x1 x2 x3 x4 x5 x6 x7 x8 x9 x10
            clear y0 y1 y2 y3 y4 y5 y6 y7 y8 y9 y10
            refine (recordGets_any Ab 455 cb pf w112 OB.out.bytS' hpb.out OB.out.max.1 OB.out.max.2 (by omega)).mono ?_
            rintro e w14 ⟨rfl, t14⟩
            have h1 := Lib.hid (h1.out.turned t14 (fun e => e))
            have h2 := Lib.hid (h2.out.turned t14 (fun e => e))
            have oD := Lib.hid (oD.out.fresh t14)
            have oP := Lib.hid (oP.out.fresh t14)
            have oX := Lib.hid (oX.out.fresh t14)
            have oY := Lib.hid (oY.out.fresh t14)
            have T8 := Lib.hid (T8.out.and_ t14)
            clear t14
            obtain ⟨x0, x1, x2, x3, x4, x5, x6, x7, x8, x9, x10⟩ := h1.out.cells11
            go_wp2_with fail
            clear x0 x1 x2 x3 x4 x5 x6 x7 x8 x9 x10
            have hr := right_any (fullR (fullD 32) (fullO 8 ++ [(9, 9)])) (fullS (some ⟨gd, 0, none⟩) A41 32 cD 9 c41) w14 (full_is oD.out oX.out (by omega) (by omega))
            rw [over_wrong] at hr
            unfold recC fullR fullS at hr
            simp only at hr
            refine hr.mono ?_
            clear hr
            rintro e w15 ⟨rfl, t15⟩
            have h2 := Lib.hid (h2.out.turned t15 (fun e => e))
            have oP := Lib.hid (oP.out.fresh t15)
            have oY := Lib.hid (oY.out.fresh t15)
            have T8 := Lib.hid (T8.out.and_ t15)
            clear t15
            obtain ⟨y0, y1, y2, y3, y4, y5, y6, y7, y8, y9, y10⟩ := h2.out.cells11
            go_wp2_with fail
            clear y0 y1 y2 y3 y4 y5 y6 y7 y8 y9 y10
            have hr := right_any (fullR (fullD 32 ++ [(99, 9)]) (fullO 8)) (fullS A42 (some ⟨gp, 0, none⟩) 33 c42 8 cP) w15 (full_is oY.out oP.out (by omega) (by omega))
            rw [more_wrong] at hr
            unfold recC fullR fullS at hr
            simp only at hr
            refine hr.mono ?_
            clear hr
            rintro e w16 ⟨rfl, t16⟩
            have T8 := Lib.hid (T8.out.and_ t16)
            clear t16
            go_wp2_with fail
            refine (awake19_any _).mono ?_
            rintro e w17 ⟨rfl, t17⟩
            have T8 := Lib.hid (T8.out.and_ t17)
            clear t17
            go_wp2_with fail
            go_ret
            exact ⟨rfl, T5.out.and_ T8.out⟩
end Go.Proofs.YtohajofkflibjaaGreatDoor

