/-
  The document's reader (storemanref19): take, number, row. No condition but the bytes' number.
-/
import Derived.Test.YtohajofkflibjaaGreatDoorRfC
namespace Go.Proofs.YtohajofkflibjaaGreatDoor
open Go.RowKit Go.Maps
set_option linter.unusedVariables false
set_option linter.unusedSimpArgs false

def RdF (w : World) (r : Nat) (A : Option Addr) (n c : Nat) (sh : Bool) : Prop := Blk w r 118 #[.slice A n c, .bool sh]
/-- An address that leads into a block below B, but not into block r, or none. -/
def PlF (r B : Nat) (A : Option Addr) : Prop := A = none ∨ ∃ b off, A = some ⟨b, off, none⟩ ∧ b < B ∧ b ≠ r
/-- Block r is a reader: none: bytes were wanting; all that it holds lies below B. -/
def IsF (w : World) (r B : Nat) : Option (List Int) → Prop
  | none => r < B ∧ ∃ A n c, RdF w r A n c true ∧ n ≤ maxLen
  | some zs => r < B ∧ ∃ A n c, RdF w r A n c false ∧ BytS w A n c zs ∧ n ≤ c ∧ c ≤ maxLen ∧ PlF r B A ∧ n ≤ 1000000
theorem PlF.at_ {r B : Nat} {A : Option Addr} (h : PlF r B A) : ∀ b o, A = some ⟨b, o, none⟩ → b < B ∧ b ≠ r := by
  rintro b o rfl
  rcases h with h | ⟨b', o', e, h⟩
  · cases h
  · injection e with e
    injection e with e1
    subst e1
    exact h
theorem PlF.up {r B B' : Nat} {A : Option Addr} (h : PlF r B A) (hB : B ≤ B') : PlF r B' A := by
  rcases h with h | ⟨b, o, e, h1, h2⟩
  · exact .inl h
  · exact .inr ⟨b, o, e, Nat.lt_of_lt_of_le h1 hB, h2⟩
theorem IsF.keep {w w' : World} {W : Nat → Prop} {r B B' : Nat} {s : Option (List Int)} (h : IsF w r B s) (ht : Turned W w w') (hW : ∀ i, W i → B ≤ i) (hB : B ≤ B') : IsF w' r B' s := by
  cases s with
  | none =>
    obtain ⟨hr, A, n, c, hb, hn⟩ := h
    exact ⟨Nat.lt_of_lt_of_le hr hB, A, n, c, hb.turned ht (fun e => by have := hW r e; omega), hn⟩
  | some zs =>
    obtain ⟨hr, A, n, c, hb, hy, h1, h2, h3, h0⟩ := h
    exact ⟨Nat.lt_of_lt_of_le hr hB, A, n, c, hb.turned ht (fun e => by have := hW r e; omega), hy.turned ht (fun b o e e2 => by have := hW b e2; have := (h3.at_ b o e).1; omega), h1, h2, h3.up hB, h0⟩
theorem IsF.fresh {w w' : World} {r B B' : Nat} {s : Option (List Int)} (h : IsF w r B s) (ht : Turned (fun _ => False) w w') (hB : B ≤ B') : IsF w' r B' s := h.keep ht (fun _ e => e.elim) hB
theorem IsF.lt {w : World} {r B : Nat} {s : Option (List Int)} (h : IsF w r B s) : r < w.heap.size ∧ r < B := by
  cases s with
  | none => obtain ⟨hr, A, n, c, hb, _⟩ := h; exact ⟨Blk.lt hb, hr⟩
  | some zs => obtain ⟨hr, A, n, c, hb, _⟩ := h; exact ⟨Blk.lt hb, hr⟩
def TkPost (r B k : Nat) (s : Option (List Int)) (w : World) (e : Ending) (w' : World) : Prop :=
  ∃ A c, e = .returned (.slice A (takeS k s).1.length c) ∧ OwnV w' A (takeS k s).1.length c (takeS k s).1 ∧ (∀ g, A = some ⟨g, 0, none⟩ → w.heap.size ≤ g) ∧ IsF w' r B (takeS k s).2 ∧ Turned (· = r) w w'
set_option maxRecDepth 100000 in
theorem ftake_short (r B : Nat) (A : Option Addr) (n c k : Nat) (sh : Bool) (w : World) (hb : RdF w r A n c sh) (hr : r < B) (hn : n ≤ maxLen) (hk : k ≤ 9223372036854775807) (h : sh = true ∨ n < k) (s : Option (List Int)) (hs : takeS k s = ([], none)) :
    Calls Tryz.prog 62 #[.pointer (some ⟨r, 0, none⟩), .int .i64 k] w (TkPost r B k s w) := by
  have hn' := hn
  unfold maxLen at hn'
  have q0 : w.cell? ⟨r, 0, none⟩ = some (.slice A n c) := hb.cell 0
  have q1 : w.cell? ⟨r, 1, none⟩ = some (.bool sh) := hb.cell 1
  have f1 := hb.frozen 1
  have hfin : TkPost r B k s w (.returned (.slice none 0 0)) (w.setCell ⟨r, 1, none⟩ (.bool true)) := by
    unfold TkPost
    rw [hs]
    exact ⟨none, 0, rfl, OwnV.nil _, (fun g e => by cases e), ⟨hr, A, n, c, hb.set_ 1 _, hn⟩, (Turned.refl (· = r) w).setCell (.inl rfl) _⟩
  have hfin' := Lib.hid hfin
  clear hfin hb hs
  cases sh with
  | true =>
    clear h
    go_enter Tryz.func62, Tryz.ntmps62
    go_wp2
    go_ret
    exact hfin'.out
  | false =>
    have hlt : n < k := by simpa using h
    have hi : (n : Int) < (k : Int) := by omega
    clear h
    go_enter Tryz.func62, Tryz.ntmps62
    go_wp2
    go_ret
    exact hfin'.out
theorem own_empty (w : World) : OwnV (w.alloc (.cells #[] 5)) (some ⟨w.heap.size, 0, none⟩) 0 0 [] := own_none w (Nat.zero_le _) 5
set_option maxRecDepth 100000 in
set_option maxHeartbeats 1000000 in
theorem ftake_ok (r B : Nat) (A : Option Addr) (n c k : Nat) (zs : List Int) (w : World) (hb : RdF w r A n c false) (hr : r < B) (hy : BytS w A n c zs) (hnc : n ≤ c) (hc : c ≤ maxLen) (hp : PlF r B A) (hk : k ≤ n) (hn : n ≤ 1000000) :
    Calls Tryz.prog 62 #[.pointer (some ⟨r, 0, none⟩), .int .i64 k] w (TkPost r B k (some zs) w) := by
  have hcm := hc
  unfold maxLen at hcm
  have hln := hy.len
  have hts := takeS_some (n := k) (zs := zs) (by omega)
  have htl : (zs.take k).length = k := by rw [List.length_take]; omega
  have hki : (k : Int) ≤ (n : Int) := by omega
  have hkc : (k : Int) ≤ (c : Int) := by omega
  have hnci : (n : Int) ≤ (c : Int) := by omega
  have q0 : w.cell? ⟨r, 0, none⟩ = some (.slice A n c) := hb.cell 0
  have q1 : w.cell? ⟨r, 1, none⟩ = some (.bool false) := hb.cell 1
  have hrl := hb.lt
  have tA := (Turned.refl (fun _ => False) w).alloc (.cells #[] 5)
  have hbA := hb.turned tA (fun e => e)
  have p0 : (w.alloc (.cells #[] 5)).cell? ⟨r, 0, none⟩ = some (.slice A n c) := hbA.cell 0
  have hyh := Lib.hid (show BytS w A k c (zs.take k) from ⟨hy.toBytR.head hk, fun e => by have := hy.nil_ e; omega⟩)
  have hfin : ∀ (w4 : World) A4 c4, OwnV w4 A4 k c4 (zs.take k) → (∀ g, A4 = some ⟨g, 0, none⟩ → w.heap.size ≤ g) → Turned (fun _ => False) w w4 → ∀ v A' n' c', v = .slice A' n' c' → BytS w A' n' c' (zs.drop k) → n' ≤ c' → c' ≤ maxLen → PlF r B A' → n' ≤ 1000000 → TkPost r B k (some zs) w (.returned (.slice A4 k c4)) (w4.setCell ⟨r, 0, none⟩ v) := by
    rintro w4 A4 c4 ho hg ht v A' n' c' rfl h1 h2 h3 h4 h0
    have t5 := (Turned.refl (· = r) w4).setCell (p := ⟨r, 0, none⟩) (.inl rfl) (.slice A' n' c')
    have hgr : ∀ g, A4 = some ⟨g, 0, none⟩ → g ≠ r := fun g e e2 => by have := hg g e; omega
    unfold TkPost
    rw [hts]
    simp only
    rw [htl]
    refine ⟨A4, c4, rfl, ho.turned t5 (fun g e => hgr g e), hg, ⟨hr, A', n', c', (hb.turned ht (fun e => e)).set_ 0 _, ?_, h2, h3, h4, h0⟩, ht.trans (W := (· = r)) t5 (fun _ e => e.elim) (fun _ e => .inl e)⟩
    exact (h1.turned ht (fun _ _ _ e => e)).turned t5 (fun b o e e2 => (h4.at_ b o e).2 e2)
  have hfin' := Lib.hid hfin
  have hp' := Lib.hid hp
  have hy' := Lib.hid hy
  have hb' := Lib.hid hb
  clear hfin hbA hb hy hts
  have W4 := Lib.hid (fun (w4 : World) (A4 : Option Addr) (c4 : Nat) (ho : OwnV w4 A4 (0 + k) c4 ([] ++ zs.take k)) (hor : (A4 = some ⟨w.heap.size, 0, none⟩ ∧ c4 = 0 ∧ (some (⟨w.heap.size, 0, none⟩ : Addr)) ≠ none ∧ Turned (fun g' => some (⟨w.heap.size, 0, none⟩ : Addr) = some ⟨g', 0, none⟩) (w.alloc (.cells #[] 5)) w4) ∨ (A4 = some ⟨(w.alloc (.cells #[] 5)).heap.size, 0, none⟩ ∧ Turned (fun _ => False) (w.alloc (.cells #[] 5)) w4)) => show OwnV w4 A4 k c4 (zs.take k) ∧ (∀ g, A4 = some ⟨g, 0, none⟩ → w.heap.size ≤ g) ∧ Turned (fun _ => False) w w4 from by
    obtain ⟨t, g⟩ := app_step (Turned.refl (fun _ => False) w) (A := some ⟨w.heap.size, 0, none⟩) (fun g e => by injection e with e; injection e with e; omega) tA hor
    rw [Nat.zero_add, List.nil_append] at ho
    exact ⟨ho, g, t⟩)
  rcases hp with rfl | ⟨b, off, rfl, hbr⟩
  · obtain ⟨h0, h0c⟩ := hy'.out.nil_ rfl
    subst h0 h0c
    obtain rfl : k = 0 := by omega
    have hz : zs.drop 0 = [] := by rw [List.drop_zero]; exact List.length_eq_zero_iff.1 hln
    go_enter Tryz.func62, Tryz.ntmps62
    go_wp2_with ((at_builtin; refine wpList_app4 bytT rfl (.tmp 22) (.tmp 28) rfl (own_empty w) (hyh.out.tF ((Turned.refl (fun _ => False) w).alloc _)) (by omega) rfl rfl ?_; intro A4 c4 w4 ho4 hor4; obtain ⟨o4, g4, t4⟩ := W4.out w4 A4 c4 ho4 hor4; have r0 : w4.cell? ⟨r, 0, none⟩ = some (.slice none 0 0) := (hb'.out.turned t4 (fun e => e)).cell 0; have rf := (hb'.out.turned t4 (fun e => e)).frozen 0))
    go_ret
    exact hfin'.out w4 A4 c4 o4 g4 t4 _ none 0 0 rfl (by rw [hz]; exact ⟨BytR.none_ _, fun _ => ⟨rfl, rfl⟩⟩) (Nat.le_refl _) (by unfold maxLen; omega) (.inl rfl) (by omega)
  · by_cases hck : c = k
    · subst hck
      obtain rfl : n = c := by omega
      have hz : zs.drop n = [] := by rw [List.drop_eq_nil_iff]; omega
      go_enter Tryz.func62, Tryz.ntmps62
      go_wp2_with (at_builtin; refine wpList_app4 bytT rfl (.tmp 22) (.tmp 28) rfl (own_empty w) (hyh.out.tF ((Turned.refl (fun _ => False) w).alloc _)) (by omega) rfl rfl ?_; intro A4 c4 w4 ho4 hor4; obtain ⟨o4, g4, t4⟩ := W4.out w4 A4 c4 ho4 hor4; have r0 : w4.cell? ⟨r, 0, none⟩ = some (.slice (some ⟨b, off, none⟩) n n) := (hb'.out.turned t4 (fun e => e)).cell 0; have rf := (hb'.out.turned t4 (fun e => e)).frozen 0)
      go_ret
      exact hfin'.out w4 A4 c4 o4 g4 t4 _ (some ⟨b, off, none⟩) 0 0 rfl (by rw [hz]; exact ⟨BytR.zero _ _, fun e => by cases e⟩) (Nat.le_refl _) (by unfold maxLen; omega) hp'.out (by omega)
    · have hc4 : ¬ (k = c) := by omega
      have hc5 : k < c := by omega
      have hc2 : ((k : Int) == (c : Int)) = false := by rw [beq_eq_false_iff_ne]; omega
      go_enter Tryz.func62, Tryz.ntmps62
      go_wp2_with (at_builtin; refine wpList_app4 bytT rfl (.tmp 22) (.tmp 28) rfl (own_empty w) (hyh.out.tF ((Turned.refl (fun _ => False) w).alloc _)) (by omega) rfl rfl ?_; intro A4 c4 w4 ho4 hor4; obtain ⟨o4, g4, t4⟩ := W4.out w4 A4 c4 ho4 hor4; have r0 : w4.cell? ⟨r, 0, none⟩ = some (.slice (some ⟨b, off, none⟩) n c) := (hb'.out.turned t4 (fun e => e)).cell 0; have rf := (hb'.out.turned t4 (fun e => e)).frozen 0)
      go_ret
      exact hfin'.out w4 A4 c4 o4 g4 t4 _ (some ⟨b, off + k, none⟩) (n - k) (c - k) rfl ⟨hy'.out.toBytR.tail hk, fun e => by cases e⟩ (by omega) (by omega) (.inr ⟨b, off + k, rfl, hbr⟩) (by omega)
theorem ftake_any (r B k : Nat) (s : Option (List Int)) (w : World) (h : IsF w r B s) (hk : k ≤ 9223372036854775807) : Calls Tryz.prog 62 #[.pointer (some ⟨r, 0, none⟩), .int .i64 k] w (TkPost r B k s w) := by
  cases s with
  | none =>
    obtain ⟨hr, A, n, c, hb, hn⟩ := h
    exact ftake_short r B A n c k true w hb hr hn hk (.inl rfl) none rfl
  | some zs =>
    obtain ⟨hr, A, n, c, hb, hy, hnc, hc, hp, h0⟩ := h
    rcases Nat.lt_or_ge n k with hlt | hge
    · exact ftake_short r B A n c k false w hb hr (by omega) hk (.inr hlt) (some zs) (takeS_short (by rw [hy.len]; exact hlt))
    · exact ftake_ok r B A n c k zs w hb hr hy hnc hc hp hge h0
def NmPost (r B k : Nat) (s : Option (List Int)) (w : World) (e : Ending) (w' : World) : Prop := e = .returned (.int .i64 (numS k s).1) ∧ IsF w' r B (numS k s).2 ∧ Turned (· = r) w w'
theorem u64_step (x c : Int) : IntKind.u64.wrap (IntKind.u64.wrap (256 * IntKind.u64.wrap x) + c) = IntKind.u64.wrap (x * 256 + c) := by
  rw [IntKind.wrap_u64, IntKind.wrap_u64, IntKind.wrap_u64, IntKind.wrap_u64]
  omega
theorem u64_i64 (x : Int) : IntKind.i64.wrap (IntKind.u64.wrap x) = IntKind.i64.wrap x := by
  rw [IntKind.wrap_i64, IntKind.wrap_i64, IntKind.wrap_u64]
  omega
set_option maxRecDepth 100000 in
set_option maxHeartbeats 1000000 in
theorem fnum_by (r B k : Nat) (s : Option (List Int)) (w : World) (hT : Calls Tryz.prog 62 #[.pointer (some ⟨r, 0, none⟩), .int .i64 k] w (TkPost r B k s w)) (hk : k ≤ 8) (hs : ∀ ys, s = some ys → ∀ y ∈ ys, isByte y) : Calls Tryz.prog 61 #[.pointer (some ⟨r, 0, none⟩), .int .i64 k] w (NmPost r B k s w) := by
  have hT' := Lib.hid hT
  have hll := takeS_len k s
  have hbb := Lib.hid (takeS_byte (k := k) hs)
  clear hT hs
  go_enter Tryz.func61, Tryz.ntmps61
  go_wp2_with fail
  refine hT'.out.mono ?_
  rintro e w1 ⟨A, c, rfl, ho, hg, hR, ht⟩
  have hz := Lib.hid (show (numS k s).1 = decN (takeS k s).1 ∧ (numS k s).2 = (takeS k s).2 from ⟨rfl, rfl⟩)
  have hF := Lib.hid (And.intro hR ht)
  have ho' := Lib.hid ho
  clear hT' hR ht ho
  generalize hzs : (takeS k s).1 = zs at *
  generalize hn : zs.length = n at *
  have hl' := Lib.hid hn
  clear hzs hn hg
  go_wp2_with fail
  go_loop [6, 7] (fun v i => ∃ j : Nat, j ≤ n ∧ i = .int .i64 j ∧ v = .int .u64 (IntKind.u64.wrap (rawN (zs.take j)))) (fun _ i => n - (intOf i).toNat)
  case atStart => exact ⟨0, Nat.zero_le _, rfl, rfl⟩
  case round =>
    obtain ⟨j, hj, rfl, rfl⟩ := hrel
    by_cases hlt : j < n
    · have hji : (j : Int) < (n : Int) := by omega
      obtain ⟨g, rfl, hrow⟩ := ho'.out.some_ (by omega)
      have q1 := hrow.cell hlt
      have hsn : zs.take (j + 1) = zs.take j ++ [zs.getD j 0] := by
        rw [List.take_succ_eq_append_getElem (by rw [hl'.out]; exact hlt)]
        simp [List.getD_eq_getElem?_getD, hl'.out, hlt]
      have hcb : isByte (zs.getD j 0) := by
        rw [List.getD_eq_getElem?_getD, List.getElem?_eq_getElem (by rw [hl'.out]; exact hlt)]
        exact hbb.out _ (List.getElem_mem _)
      unfold isByte at hcb
      have hst := Lib.hid (show rawN (zs.take (j + 1)) = rawN (zs.take j) * 256 + zs.getD j 0 by rw [hsn, rawN_snoc])
      clear hrow hsn
      generalize rawN (zs.take j) = v at *
      generalize zs.getD j 0 = x at *
      have hstep := Lib.hid (u64_step v x)
      go_wp2_with fail
      go_round
      case rel =>
        refine ⟨j + 1, hlt, by go_num, ?_⟩
        rw [hst.out, ← hstep.out]
      case measure => simp [intOf]; omega
    · obtain rfl : n = j := by omega
      have hge : (n : Int) ≤ (n : Int) := Int.le_refl _
      have hfin := Lib.hid (show IntKind.i64.wrap (IntKind.u64.wrap (rawN (zs.take n))) = (numS k s).1 by rw [u64_i64, ← decN_raw, hz.out.1, List.take_of_length_le (by rw [hl'.out]; exact Nat.le_refl _)])
      go_wp2_with fail
      go_ret
      refine ⟨ret_int (by rw [← hfin.out, IntKind.wrap_i64]; unfold wrap64; omega), by rw [hz.out.2]; exact hF.out.1, hF.out.2⟩
theorem fnum_any (r B k : Nat) (s : Option (List Int)) (w : World) (h : IsF w r B s) (hB : B ≤ w.heap.size) (hk : k ≤ 8) (hs : ∀ ys, s = some ys → ∀ y ∈ ys, isByte y) : Calls Tryz.prog 61 #[.pointer (some ⟨r, 0, none⟩), .int .i64 k] w (NmPost r B k s w) :=
  fnum_by r B k s w (ftake_any r B k s w h (by omega)) hk hs
def FRowPost (r B : Nat) (s : Option (List Int)) (w : World) (e : Ending) (w' : World) : Prop :=
  ∃ A c, e = .returned (.slice A (rowS s).1.length c) ∧ OwnV w' A (rowS s).1.length c (rowS s).1 ∧ (∀ g, A = some ⟨g, 0, none⟩ → w.heap.size ≤ g) ∧ IsF w' r B (rowS s).2 ∧ Turned (· = r) w w'
set_option maxRecDepth 100000 in
theorem frrow_any (r B : Nat) (s : Option (List Int)) (w : World) (h : IsF w r B s) (hB : B ≤ w.heap.size) (hs : ∀ ys, s = some ys → ∀ y ∈ ys, isByte y) : Calls Tryz.prog 64 #[.pointer (some ⟨r, 0, none⟩)] w (FRowPost r B s w) := by
  obtain ⟨k, hk, hk2⟩ := numS1_nat s hs
  have h1 := fnum_any r B 1 s w h hB (by omega) hs
  unfold NmPost at h1
  rw [hk] at h1
  have h1' := Lib.hid h1
  have hrz := Lib.hid (show rowS s = takeS k (numS 1 s).2 by unfold rowS; rw [hk, Int.toNat_natCast])
  clear h1 h hk
  go_enter Tryz.func64, Tryz.ntmps64
  go_wp2_with fail
  refine h1'.out.mono ?_
  rintro e w1 ⟨rfl, hR1, t1⟩
  have t1' := Lib.hid t1
  clear t1 h1'
  go_wp2_with fail
  refine (ftake_any r B k _ w1 hR1 (by omega)).mono ?_
  rintro e w2 ⟨A, c, rfl, ho, hg, hR2, t2⟩
  have F := Lib.hid (And.intro ho (And.intro hg (And.intro hR2 t2)))
  clear ho hg hR1 hR2 t2
  rw [← hrz.out] at F ⊢
  go_wp2_with fail
  go_ret
  exact ⟨A, c, rfl, F.out.1, fun g e => Nat.le_trans t1'.out.size (F.out.2.1 g e), F.out.2.2.1, t1'.out.trans (W := (· = r)) F.out.2.2.2 (fun _ e => e) (fun _ e => .inl e)⟩
end Go.Proofs.YtohajofkflibjaaGreatDoor

