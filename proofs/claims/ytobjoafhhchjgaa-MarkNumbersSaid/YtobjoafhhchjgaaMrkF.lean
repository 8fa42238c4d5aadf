/-
  The document's masters: Place, Bytes; nothing of a disk yet.
-/
import Derived.Test.YtobjoafhhchjgaaMrkE
namespace Go.Proofs.Ytobjoafhhchjgaa
open Go.RowKit Go.Maps

theorem rplace_no (n : Int) (w : World) (h : n < 40 ∨ 8192 < n) : Calls Try.prog 34 #[.int .i64 n] w (Place4 0 0 0 0 w) := by
  by_cases h1 : n < 40
  · go_enter Try.func34, Try.ntmps34
    go_wp2
    refine bodyPost_ret (v := .tuple #[.int .i64 0, .int .i64 0, .int .i64 0, .int .i64 0]) (by simp [results, Try.results34, go_sem]) rfl ⟨rfl, rfl⟩
  · have h2 : 8192 < n := by omega
    clear h
    go_enter Try.func34, Try.ntmps34
    go_wp2
    refine bodyPost_ret (v := .tuple #[.int .i64 0, .int .i64 0, .int .i64 0, .int .i64 0]) (by simp [results, Try.results34, go_sem]) rfl ⟨rfl, rfl⟩
theorem rplace_yes (n : Int) (w : World) (h1 : 40 ≤ n) (h2 : n ≤ 8192) : Calls Try.prog 34 #[.int .i64 n] w (Place4 2 (n - placeC n - 2) (n - placeC n) (placeC n) w) := by
  have e : n - placeC n - 2 = n - 2 - placeC n := by omega
  rw [e]
  unfold placeC
  by_cases h : n / 4 < 12
  · rw [if_pos h]
    have hmx : max (n / 4) 12 = 12 := by omega
    go_enter Try.func34, Try.ntmps34
    go_wp2
    refine bodyPost_ret (v := .tuple #[.int .i64 2, .int .i64 (n - 2 - 12), .int .i64 (n - 12), .int .i64 12]) (by simp [results, Try.results34, go_sem]) rfl ⟨rfl, rfl⟩
  · rw [if_neg h]
    have h3 : 12 ≤ n / 4 := by omega
    have hmx : max (n / 4) 12 = n / 4 := by omega
    go_enter Try.func34, Try.ntmps34
    go_wp2
    refine bodyPost_ret (v := .tuple #[.int .i64 2, .int .i64 (n - 2 - n / 4), .int .i64 (n - n / 4), .int .i64 (n / 4)]) (by simp [results, Try.results34, go_sem]) rfl ⟨rfl, rfl⟩

theorem of_any (m : M4) (w : World) : Calls Try.prog 57 #[.agg #[.int .i64 m.seq, .int .i64 m.turn, .int .i64 m.old, .int .i64 m.mark]] w (RetNew (.agg #[.int .i64 m.seq, .int .i64 m.turn, .int .i64 m.old, .int .i64 m.mark]) w) := by
  obtain ⟨seq, turn, old, mark⟩ := m
  go_enter Try.func57, Try.ntmps57
  go_wp2
  refine bodyPost_ret (v := .agg #[.int .i64 seq, .int .i64 turn, .int .i64 old, .int .i64 mark]) (by simp [results, Try.results57, go_sem]) rfl ⟨rfl, ?_⟩
  exact ((Turned.refl (fun _ => False) w).alloc _).alloc _

theorem NumR.turned {w w' : World} {W : Nat → Prop} {b o n : Nat} {zs : List Int} (h : NumR w (some ⟨b, o, none⟩) n zs) (ht : Turned W w w') (hW : ¬ W b) : NumR w' (some ⟨b, o, none⟩) n zs :=
  ⟨h.len, h.max, h.wf, fun hn => by
    obtain ⟨b', off, e, hc⟩ := h.cell hn
    injection e with e
    injection e with e1 e2
    subst e1 e2
    exact ⟨b, o, rfl, fun j hj => cell_turned ht (hc j hj) hW⟩⟩
def SecR2 (w : World) (b : Nat) (zs pre : List Int) (v : Value) (wr : World) : Prop := ∃ g n cap, v = .slice (some ⟨g, 0, none⟩) n cap ∧ AppB wr 5 g n cap pre ∧ w.heap.size ≤ g ∧ g ≠ b ∧ b < wr.heap.size ∧ NumR wr (some ⟨b, 0, none⟩) 4 zs ∧ Turned (fun _ => False) w wr
def SecLoop2 (w : World) (b : Nat) (zs : List Int) (v i : Value) (wr : World) : Prop := ∃ j : Nat, j ≤ 4 ∧ i = .int .i64 j ∧ SecR2 w b zs (preB zs j) v wr
def SecIn2 (w : World) (b : Nat) (zs pre : List Int) (z : Int) (v i : Value) (wr : World) : Prop := ∃ t : Nat, t ≤ 8 ∧ i = .int .i64 (7 - (t : Int)) ∧ SecR2 w b zs (pre ++ be8To z t) v wr
theorem u64_be8 (z : Int) (t : Nat) (ht : t < 8) : IntKind.u64.wrap z / 2 ^ (8 * (7 - t)) % 256 = be8At z t := by
  unfold be8At
  rw [IntKind.wrap_u64]
  rcases (show t = 0 ∨ t = 1 ∨ t = 2 ∨ t = 3 ∨ t = 4 ∨ t = 5 ∨ t = 6 ∨ t = 7 by omega) with rfl | rfl | rfl | rfl | rfl | rfl | rfl | rfl
  · show z % _ / 2 ^ 56 % 256 = z / 2 ^ 56 % 256; omega
  · show z % _ / 2 ^ 48 % 256 = z / 2 ^ 48 % 256; omega
  · show z % _ / 2 ^ 40 % 256 = z / 2 ^ 40 % 256; omega
  · show z % _ / 2 ^ 32 % 256 = z / 2 ^ 32 % 256; omega
  · show z % _ / 2 ^ 24 % 256 = z / 2 ^ 24 % 256; omega
  · show z % _ / 2 ^ 16 % 256 = z / 2 ^ 16 % 256; omega
  · show z % _ / 2 ^ 8 % 256 = z / 2 ^ 8 % 256; omega
  · show z % _ / 2 ^ 0 % 256 = z / 2 ^ 0 % 256; omega
theorem wpList_bytes_string {P : Program} {w : World} {S U T : TypeId} {ops : Array Oper} {rest : List Oper} {o : Oper} {a : Act} {Q : Exit → Act → World → Prop} (B : BytT P S U) (hT : P.underlying T = some .string) (hgd : o.guard = none) (s x : Operand)
    (ho : o.op = .call { callee := .builtin .append, args := #[s, x], argTypes := #[S, T] }) {base n : Nat} {v : Value} {xs : List Int} (hown : w.ownsRow base U 1 v n (u8s xs)) (str : ByteArray) (zs : List Int) (hz : Lib.strCells str = u8s zs) (hm : 0 < str.size) (hb : n + str.size ≤ 140737488355328) (hbase : base ≤ w.heap.size)
    (hs : a.eval s = v) (hx : a.eval x = .string str)
    (h : ∀ g cap w', RowB w' U g (n + str.size) cap (xs ++ zs) → base ≤ g → w.grownBy w' v.ownBlock → wpList P ops Q rest (a.put o.dst (.slice (some ⟨g, 0, none⟩) (n + str.size) cap)) w') : wpList P ops Q (o :: rest) a w := by
  obtain ⟨i, hi, hz0, hz1, hz2⟩ := info_parts B.info
  obtain ⟨v', w', hrun, h2, h3, _⟩ := Lib.run_append_own_string (P := P) w base S T o.type U i B.und hT hi hz0 hz1 hz2 v n (u8s xs) hown str (by unfold maxLen; omega) hb hbase
  obtain ⟨g, cap, rfl⟩ := own_some h2 (by omega)
  have hge := own_block_ge h2 (k := g) rfl
  refine Lib.wpList_append_run w hgd s x S T ho _ _ hs hx _ _ hrun (h g cap w' (RowB.of_own (base := base) ?_) hge h3)
  have : u8s (xs ++ zs) = u8s xs ++ Lib.strCells str := by rw [hz]; simp [u8s]
  rw [this]; exact h2

set_option maxRecDepth 100000 in
set_option maxHeartbeats 1000000 in
theorem rbytes_any (m : M4) (hm : m.Ok) (w : World) :
    Calls Try.prog 56 #[.agg #[.int .i64 m.seq, .int .i64 m.turn, .int .i64 m.old, .int .i64 m.mark]] w (SecPost m.list w) := by
  obtain ⟨seq, turn, old, mark⟩ := m
  have hm' := Lib.hid hm
  clear hm
  have hsz0 : ∀ w : World, w.heap.size ≤ w.heap.size + 1 + 1 := fun w => by omega
  have hsz := Lib.hid hsz0
  clear hsz0
  go_enter Try.func56, Try.ntmps56
  go_wp2_with (first
    | (refine wpList_bytes_none bytT rfl rfl ?_)
    | (at_builtin; refine wpList_bytes_string bytT Try.underlying9 rfl (.tmp 7) (.const (.string ⟨#[115, 116, 111, 114, 101, 109, 97, 110]⟩)) rfl (own_none (base := w.heap.size) _ (by simp) _) ⟨#[115, 116, 111, 114, 101, 109, 97, 110]⟩ nameB rfl (by decide) (by decide) (by simpa using hsz.out w) rfl rfl ?_; intro g1 cap1 w1 hr1 hg1 hgr1; have hx1 := ((Blk.new w 95 #[.int .i64 seq, .int .i64 turn, .int .i64 old, .int .i64 mark]).alloc (.cells #[] 5)).grown hgr1 (by simp [Value.ownBlock]); obtain ⟨q0, q1, q2, q3⟩ := m4_cells hx1))
  have ht1 : Turned (fun _ => False) w w1 := (((Turned.refl (fun _ => False) w).alloc (.cells #[.int .i64 seq, .int .i64 turn, .int .i64 old, .int .i64 mark] 95)).alloc (.cells #[] 5)).grown hgr1 (fun k e => by
    simp [Value.ownBlock] at e
    exact .inr (by omega))
  have hN : NumR (w1.alloc (.cells #[.int .i64 seq, .int .i64 turn, .int .i64 old, .int .i64 mark] 2)) (some ⟨w1.heap.size, 0, none⟩) 4 [seq, turn, old, mark] := by
    refine ⟨rfl, by omega, ?_, fun _ => ⟨_, 0, rfl, fun j hj => ?_⟩⟩
    · intro z hz
      simp only [List.mem_cons, List.not_mem_nil, or_false] at hz
      rcases hz with rfl | rfl | rfl | rfl
      · exact hm'.out.b0
      · exact hm'.out.b1
      · exact hm'.out.b2
      · exact hm'.out.b3
    · have hb := Blk.new w1 2 #[.int .i64 seq, .int .i64 turn, .int .i64 old, .int .i64 mark]
      rw [Nat.zero_add, hb.cell]
      match j, hj with
      | 0, _ => rfl
      | 1, _ => rfl
      | 2, _ => rfl
      | 3, _ => rfl
  have hb1 := hr1.lt
  have hS0 : SecR2 w w1.heap.size [seq, turn, old, mark] (preB [seq, turn, old, mark] 0) (.slice (some ⟨g1, 0, none⟩) 8 cap1) (w1.alloc (.cells #[.int .i64 seq, .int .i64 turn, .int .i64 old, .int .i64 mark] 2)) :=
    ⟨g1, 8, cap1, rfl, hr1.app.turned ((Turned.refl (fun _ => False) w1).alloc _) (fun e => e), hg1, by omega, by simp, hN, ht1.alloc _⟩
  have hS0' := Lib.hid hS0
  have hzl : (M4.mk seq turn old mark).list = [seq, turn, old, mark] := rfl
  clear hN hS0 hr1 hg1 hgr1 ht1 hx1 q0 q1 q2 q3 hb1
  have hw1 := Nat.le_refl w1.heap.size
  generalize w1.alloc (.cells #[.int .i64 seq, .int .i64 turn, .int .i64 old, .int .i64 mark] 2) = w2 at *
  have hl : [seq, turn, old, mark].length = 4 := rfl
  generalize [seq, turn, old, mark] = zs at *
  have hl' := Lib.hid hl
  have hzl' := Lib.hid hzl
  clear hl hzl hw1
  go_loopw [3, 5] (fun v i wr => SecLoop2 w w1.heap.size zs v i wr) (fun _ i _ => 4 - (intOf i).toNat)
  case atStart => exact ⟨0, by omega, rfl, hS0'.out⟩
  case round =>
    obtain ⟨j, hj, rfl, hS⟩ := hrel
    clear hS0'
    obtain ⟨g0, n0, cap0, rfl, hA0, hg0, hne0, hlt0, hN0, ht0⟩ := id hS
    by_cases hlt : j < 4
    · have hji : (j : Int) < 4 := by omega
      have hS' := Lib.hid hS
      clear hS hA0 hg0 ht0 hN0 hne0 hlt0
      generalize hz : zs.getD j 0 = z
      have hz' := Lib.hid hz
      clear hz
      obtain ⟨wo, hwo⟩ : ∃ wo : World, wo = wr := ⟨_, rfl⟩
      subst hwo
      go_wp2_with fail
      go_loopw [3, 6] (fun v i wr => SecIn2 w w1.heap.size zs (preB zs j) z v i wr) (fun _ i _ => (intOf i + 1).toNat)
      case atStart => exact ⟨0, by omega, rfl, by rw [show be8To z 0 = [] from rfl, List.append_nil]; exact hS'.out⟩
      case round =>
        obtain ⟨t, ht8, rfl, g, n, cap, rfl, hA, hg, hne, hltb, hN, ht⟩ := hrel
        have hn : n = 8 + 8 * j + t := by
          have := hA.len
          rw [List.length_append, preB_length _ _ (by rw [hl'.out]; omega), be8To_length] at this
          omega
        have hnl : n ≤ 100 := by omega
        have hA' := Lib.hid hA
        have hgl := hA.lt
        clear hA hn
        by_cases hlt2 : t < 8
        · have h1 : (t : Int) ≤ 7 := by omega
          have h1b : decide ((t : Int) ≤ 7) = true := by simpa using h1
          have h2 : 0 ≤ 7 - (t : Int) := by omega
          have hu := Lib.hid (u64_be8 z t hlt2)
          obtain ⟨b', o', e', hc'⟩ := hN.cell (by omega)
          injection e' with e'
          injection e' with e1 e2
          subst e1 e2
          have q := hc' j hlt
          rw [Nat.zero_add, hz'.out] at q
          have hN' := Lib.hid hN
          clear hc' hN
          go_wp2_with (at_builtin; refine wpList_app bytT rfl (.tmp 28) (.tmp 39) rfl (hA'.out.turned ((Turned.refl (fun _ => False) wr).alloc _) (fun e => e)) ⟨wr.heap.size, 0, none⟩ 1 1 [IntKind.u64.wrap z / 2 ^ (8 * (7 - t)) % 256] rfl (cell_one_new _ _ _) (by omega) (by omega) rfl rfl ?_; intro g' cap' w' hr' hgr' hat')
          have ht4 : Turned (fun _ => False) w w' := (ht.alloc (.cells #[.int .u8 (IntKind.u64.wrap z / 2 ^ (8 * (7 - t)) % 256)] 5)).grown hgr' (fun k e => by injection e with e; exact .inr (by omega))
          have hgt : Turned (· = g) wr w' := ((Turned.refl (· = g) wr).alloc (.cells #[.int .u8 (IntKind.u64.wrap z / 2 ^ (8 * (7 - t)) % 256)] 5)).grown hgr' (fun k e => by injection e with e; exact .inl e.symm)
          have hR : SecIn2 w w1.heap.size zs (preB zs j) z (.slice (some ⟨g', 0, none⟩) (n + 1) cap') (.int .i64 (7 - ((t + 1 : Nat) : Int))) w' := by
            have hs := hgt.size
            refine ⟨t + 1, by omega, rfl, g', n + 1, cap', rfl, ?_, ?_, ?_, by omega, hN'.out.turned hgt (fun e => hne e.symm), ht4⟩
            · rw [be8To_succ, ← List.append_assoc, ← hu.out]; exact hr'.app
            · have := ht.size
              rcases hat' with e | e
              · omega
              · simp at e; omega
            · rcases hat' with e | e
              · omega
              · simp at e; omega
          have hR' := Lib.hid hR
          clear hR hgr' hat' hr' hgt
          go_roundw
          case rel =>
            have hz : Value.int .i64 (7 - (t : Int) - 1) = .int .i64 (7 - ((t + 1 : Nat) : Int)) := by congr 1; omega
            first
            | (rw [hz]; exact hR'.out)
            | ((repeat apply Exists.intro); exact ⟨by rw [hz]; exact hR'.out, rfl⟩)
          case measure => simp [intOf]; omega
        · have ht88 : t = 8 := by omega
          subst ht88
          have hR : SecLoop2 w w1.heap.size zs (.slice (some ⟨g, 0, none⟩) n cap) (.int .i64 ((j + 1 : Nat) : Int)) wr := by
            refine ⟨j + 1, by omega, rfl, g, n, cap, rfl, ?_, hg, hne, hltb, hN, ht⟩
            rw [preB_succ _ _ (by rw [hl'.out]; omega), hz'.out]
            exact hA'.out
          have hR' := Lib.hid hR
          clear hR hN
          go_wp2
          go_roundw
          case rel =>
            have hz : Value.int .i64 ((j : Int) + 1) = .int .i64 ((j + 1 : Nat) : Int) := by go_num
            first
            | (rw [hz]; exact hR'.out)
            | ((repeat apply Exists.intro); exact ⟨by rw [hz]; exact hR'.out, rfl⟩)
          case measure => simp [intOf]; omega
    · have hj4 : j = 4 := by omega
      subst hj4
      have hn : n0 = 40 := by
        have := hA0.len
        rw [preB_length _ _ (by rw [hl'.out]; omega)] at this
        omega
      subst hn
      have hA0' := Lib.hid hA0
      have hgl := hA0.lt
      clear hA0 hS hN0
      go_wp2_with (at_builtin; refine wpList_bytes_zeros bytT Try.underlying3 rfl (.tmp 41) (.tmp 44) rfl hA0'.out 472 (by omega) (by omega) rfl rfl ?_; intro g' cap' w' hr' hgr' hat')
      go_ret
      have e : preB zs 4 ++ List.replicate 472 0 = mBytes zs := by
        unfold preB mBytes
        rw [List.take_of_length_le (by rw [hl'.out]; omega)]
      rw [e] at hr'
      rw [hzl'.out]
      refine ⟨g', cap', rfl, hr', ?_, ht0.grown hgr' (fun k e => by injection e with e; exact .inr (by omega))⟩
      have := ht0.size
      rcases hat' with e | e
      · omega
      · omega
end Go.Proofs.Ytobjoafhhchjgaa
