/-
  Masters: bytes that are equal; what a sector says; Read on the program's disk.
-/
import Derived.Test.YtobjoafhhchjgaaMrkC
import Derived.Laws.BytesArg
import Derived.Shelf.Bytes.SlSmallAll
namespace Go.Proofs.Ytobjoafhhchjgaa
open Go.RowKit Go.Maps

theorem strOf_inj {xs ys : List Int} (hx : ∀ z ∈ xs, isByte z) (hy : ∀ z ∈ ys, isByte z) (h : strOfNums xs = strOfNums ys) : xs = ys := by
  have h1 := congrArg (fun s : ByteArray => s.data.toList) h
  simp only [strOfNums_data] at h1
  have back : ∀ l : List Int, (∀ z ∈ l, isByte z) → (l.map fun n => UInt8.ofNat n.toNat).map (fun u => (u.toNat : Int)) = l := by
    intro l hl
    rw [List.map_map]
    conv => rhs; rw [← List.map_id l]
    refine List.map_congr_left (fun z hz => ?_)
    have := hl z hz
    unfold isByte at this
    simp [UInt8.toNat_ofNat']
    omega
  rw [← back xs hx, ← back ys hy, h1]
theorem BytR.convert {w : World} {A : Option Addr} {n : Nat} {zs : List Int} (h : BytR w A n zs) (c : Nat) : (convert 35 9 (.slice A n c)).run Try.prog w = .ok (.string (strOfNums zs)) w := by
  rcases Nat.eq_zero_or_pos n with hn | hn
  · have hz : zs = [] := List.eq_nil_of_length_eq_zero (by rw [h.len, hn])
    subst hn hz
    exact run_convert_bytes_zero w 35 5 Try.underlying35 Try.underlying5 A c 9 Try.underlying9
  · obtain ⟨b, o, rfl, hc⟩ := h.cell hn
    exact run_convert_bytes_arg (P := Try.prog) w 35 5 Try.underlying35 Try.underlying5 b o n c zs h.len hc 9 Try.underlying9
theorem equal_to (A B : Option Addr) (n m c1 c2 : Nat) (zs ys : List Int) (r : Bool) (w : World) (hz : BytR w A n zs) (hy : BytR w B m ys) (bz : ∀ z ∈ zs, isByte z) (by_ : ∀ z ∈ ys, isByte z) (hr : decide (zs = ys) = r) :
    Calls Try.prog 60 #[.slice A n c1, .slice B m c2] w (RetSame (.bool r) w) := by
  subst hr
  have k1 := hz.convert c1
  have k2 := hy.convert c2
  have hd : ((strOfNums zs).toList == (strOfNums ys).toList) = decide (zs = ys) := by
    by_cases e : zs = ys
    · subst e; simp
    · have : ¬ (strOfNums zs).toList = (strOfNums ys).toList := fun h => e (strOf_inj bz by_ (WideShapes.bytes_inj (by rw [← ByteArray.toList_eq, ← ByteArray.toList_eq]; exact h)))
      rw [decide_eq_false e, beq_eq_false_iff_ne]
      exact this
  have hd' := Lib.hid hd
  clear hz hy bz by_ hd
  generalize strOfNums zs = s1 at *
  generalize strOfNums ys = s2 at *
  go_enter Try.func60, Try.ntmps60
  go_wp2
  go_ret
  exact ⟨ret_bool hd'.out, rfl⟩

/-- A number out of bytes, the highest first. -/
def dec8 (l : List Int) : Int := l.foldl (fun a c => IntKind.i64.wrap (a * 256 + c)) 0
theorem dec8_snoc (l : List Int) (c : Int) : dec8 (l ++ [c]) = IntKind.i64.wrap (dec8 l * 256 + c) := by simp [dec8, List.foldl_append]
theorem wrap_bounds (x : Int) : -9223372036854775808 ≤ IntKind.i64.wrap x ∧ IntKind.i64.wrap x ≤ 9223372036854775807 := by
  rw [IntKind.wrap_i64]; omega
theorem dec8_bounds (l : List Int) : -9223372036854775808 ≤ dec8 l ∧ dec8 l ≤ 9223372036854775807 := by
  rcases List.eq_nil_or_concat l with rfl | ⟨r, c, rfl⟩
  · decide
  · rw [List.concat_eq_append, dec8_snoc]; exact wrap_bounds _
/-- The j-th number behind k bytes. -/
def decAt (zs : List Int) (k j : Nat) : Int := dec8 ((zs.drop (8 + 8 * j)).take (min 8 (k - 8 * j)))
theorem decAt_hit (zs : List Int) (k j : Nat) (hl : 40 ≤ zs.length) (hk : k / 8 = j) (h : k < 32) : decAt zs (k + 1) j = IntKind.i64.wrap (decAt zs k j * 256 + zs.getD (8 + k) 0) := by
  unfold decAt
  rw [show min 8 (k + 1 - 8 * j) = min 8 (k - 8 * j) + 1 by omega, List.take_succ_eq_append_getElem (by rw [List.length_drop]; omega), dec8_snoc]
  congr 2
  rw [List.getElem_drop, List.getD_eq_getElem?_getD, List.getElem?_eq_getElem (by omega)]
  simp only [Option.getD_some]
  congr 1
  omega
theorem decAt_miss (zs : List Int) (k j : Nat) (hk : k / 8 ≠ j) : decAt zs (k + 1) j = decAt zs k j := by
  unfold decAt
  rw [show min 8 (k + 1 - 8 * j) = min 8 (k - 8 * j) by omega]
def M4.of (zs : List Int) : M4 := ⟨decAt zs 32 0, decAt zs 32 1, decAt zs 32 2, decAt zs 32 3⟩
theorem M4.of_ok (zs : List Int) : (M4.of zs).Ok := ⟨dec8_bounds _, dec8_bounds _, dec8_bounds _, dec8_bounds _⟩
def M4.zero : M4 := ⟨0, 0, 0, 0⟩
/-- The better of what was read and what a sector says. -/
def rdOk (zs : List Int) (i : Int) (best : M4) : Bool := (M4.of zs).may && decide ((M4.of zs).seq % 2 = i) && decide (mBytes (M4.of zs).list = zs) && decide (best.seq < (M4.of zs).seq)
def rdAt (zs : List Int) (i : Int) (best : M4) : M4 := if rdOk zs i best then M4.of zs else best
def bestAt (A : DA) : Nat → M4
  | 0 => M4.zero
  | j + 1 => rdAt (A.lat j) j (bestAt A j)
def mreadUp (A : DA) : Int × M4 := if (bestAt A 2).seq = 0 then (4, M4.zero) else (0, bestAt A 2)
def mread (A : DA) : Int × M4 := if A.n < 40 then (2, M4.zero) else if A.down then (8, M4.zero) else mreadUp A

structure OfCells (m : M4) (a b c d : Int) : Prop where
  s : m.seq = a
  t : m.turn = b
  o : m.old = c
  k : m.mark = d
def m4Cells (m : M4) : Array Value := #[.int .i64 m.seq, .int .i64 m.turn, .int .i64 m.old, .int .i64 m.mark]
def MrPost (R : Int × M4) (w : World) (e : Ending) (w' : World) : Prop :=
  e = .returned (.tuple #[.agg #[.int .i64 R.2.seq, .int .i64 R.2.turn, .int .i64 R.2.old, .int .i64 R.2.mark], .int .i64 R.1]) ∧ Turned (fun _ => False) w w'
def decCells (zs : List Int) (k : Nat) : Array Value := #[.int .i64 (decAt zs k 0), .int .i64 (decAt zs k 1), .int .i64 (decAt zs k 2), .int .i64 (decAt zs k 3)]
def InRel (ga : Nat) (zs : List Int) (w0 : World) (i : Value) (wr : World) : Prop := ∃ k : Nat, k ≤ 32 ∧ i = .int .i64 k ∧ Blk wr ga 97 (decCells zs k) ∧ Turned (· = ga) w0 wr
def RdRel (d s o : Nat) (A : DA) (w : World) (i : Value) (wr : World) : Prop :=
  ∃ j : Nat, j ≤ 2 ∧ i = .int .i64 j ∧ IsDisk wr d s o A ∧ Blk wr w.heap.size 59 (m4Cells M4.zero) ∧ Blk wr (w.heap.size + 1) 59 (m4Cells (bestAt A j)) ∧ Turned (fun _ => False) w wr
theorem m4_cells {w : World} {g t : Nat} {v0 v1 v2 v3 : Value} (h : Blk w g t #[v0, v1, v2, v3]) : w.cell? ⟨g, 0, none⟩ = some v0 ∧ w.cell? ⟨g, 1, none⟩ = some v1 ∧ w.cell? ⟨g, 2, none⟩ = some v2 ∧ w.cell? ⟨g, 3, none⟩ = some v3 :=
  ⟨h.cell 0, h.cell 1, h.cell 2, h.cell 3⟩

set_option maxRecDepth 100000 in
set_option maxHeartbeats 2000000 in
theorem mread_up {w : World} {d s o : Nat} {A : DA} (h : IsDisk w d s o A) (hn : 40 ≤ A.n) (hd : A.down = false) :
    Calls Try.prog 36 #[.pointer (some ⟨d, 0, none⟩)] w (MrPost (mreadUp A) w) := by
  obtain ⟨c0, _, _, _, _⟩ := dsk_cells h
  have hn1 := h.n1
  have h' := Lib.hid h
  have hd' := Lib.hid hd
  clear h hd
  have hb : bigC A.n = 0 := by unfold bigC; rw [if_neg (by omega)]
  have hbig := Lib.hid (big_any d A.n (w.alloc (.cells #[.int .i64 0, .int .i64 0, .int .i64 0, .int .i64 0] 59)) ((cell_turned ((Turned.refl (fun _ => False) w).alloc _) c0 (fun e => e))) hn1)
  rw [hb] at hbig
  clear hb c0
  go_enter Try.func36, Try.ntmps36
  go_wp2_with fail
  refine hbig.out.mono ?_
  rintro e w1 ⟨rfl, rfl⟩
  go_wp2_with fail
  have hR0 : RdRel d s o A w (.int .i64 0) ((w.alloc (.cells #[.int .i64 0, .int .i64 0, .int .i64 0, .int .i64 0] 59)).alloc (.cells #[.int .i64 0, .int .i64 0, .int .i64 0, .int .i64 0] 59)) :=
    ⟨0, by omega, rfl, h'.out.fresh (((Turned.refl (fun _ => False) w).alloc _).alloc _), (Blk.new w _ _).alloc _, Blk.new_at _ _ _ (by simp), ((Turned.refl (fun _ => False) w).alloc _).alloc _⟩
  have hR0' := Lib.hid hR0
  clear hR0
  go_loopw [19] (fun i wr => RdRel d s o A w i wr) (fun i _ => 2 - (intOf i).toNat)
  case atStart => exact hR0'.out
  case round =>
    obtain ⟨j, hj, rfl, hD, hB0, hB1, hT⟩ := hrel
    clear hR0'
    have hD' := Lib.hid hD
    have hB0' := Lib.hid hB0
    have hB1' := Lib.hid hB1
    clear hD hB0 hB1
    by_cases hlt : j < 2
    · have hji : (j : Int) < 2 := by omega
      obtain ⟨wo, hwo⟩ : ∃ wo : World, wo = wr := ⟨_, rfl⟩
      subst hwo
      have hsec : Sec (A.lat j) := let ⟨_, _, _, _, _, _, _, _, _, _, s2⟩ := hD'.out.maps; s2 j
      go_wp2_with fail
      refine (read_ok d s o A j _ hD'.out hd'.out (by omega) (by omega)).mono ?_
      rintro e w2 ⟨g, cap, rfl, hr, hg, ht2⟩
      generalize hzs : A.lat (j : Int) = zs at *
      have hzs' := Lib.hid hzs
      have hsec' := Lib.hid hsec
      have hle := hr.le
      clear hzs hsec
      go_wp2_with fail
      -- PRINTED BY wip/gen_mrkd.py
      have hA3 := Blk.new w2 97 #[.int .i64 0, .int .i64 0, .int .i64 0, .int .i64 0]
      have ht3 := ht2.alloc (.cells #[.int .i64 0, .int .i64 0, .int .i64 0, .int .i64 0] 97)
      have hr3 := hr.turned ((Turned.refl (fun _ => False) w2).alloc (.cells #[.int .i64 0, .int .i64 0, .int .i64 0, .int .i64 0] 97)) (fun e => e)
      have hgl := hr.lt
      have hs3 : (w2.alloc (.cells #[.int .i64 0, .int .i64 0, .int .i64 0, .int .i64 0] 97)).heap.size = w2.heap.size + 1 := by simp
      have hs3' := Lib.hid hs3
      clear hr hs3
      generalize w2.alloc (.cells #[.int .i64 0, .int .i64 0, .int .i64 0, .int .i64 0] 97) = w3 at *
      have hA3' := Lib.hid hA3
      have hr3' := Lib.hid hr3
      clear hA3 hr3
      go_loopw [35] (fun i wr => InRel w2.heap.size zs w3 i wr) (fun i _ => 32 - (intOf i).toNat)
      case atStart => exact ⟨0, by omega, rfl, hA3'.out, Turned.refl _ _⟩
      case round =>
        obtain ⟨k, hk, rfl, hBk, hTk⟩ := hrel
        clear hA3'
        by_cases hlt2 : k < 32
        · have hki : (k : Int) < 32 := by omega
          have qb := (hr3'.out.turned hTk (fun e => by have : g = w2.heap.size := e; omega)).cell (i := 8 + k) (by omega)
          have hcb : isByte (zs.getD (8 + k) 0) := by
            rw [List.getD_eq_getElem?_getD, List.getElem?_eq_getElem (by rw [hsec'.out.len]; omega)]
            exact hsec'.out.byte _ (List.getElem_mem _)
          unfold isByte at hcb
          obtain ⟨q0, q1, q2, q3⟩ := m4_cells hBk
          have hf := hBk.frozen
          rcases (show k / 8 = 0 ∨ k / 8 = 1 ∨ k / 8 = 2 ∨ k / 8 = 3 by omega) with hq | hq | hq | hq
          · have hqi : (k : Int) / 8 = 0 := by omega
            have hB4 := Lib.hid (show Blk (wr.setCell ⟨w2.heap.size, 0, none⟩ (.int .i64 (IntKind.i64.wrap (decAt zs k 0 * 256 + zs.getD (8 + k) 0)))) w2.heap.size 97 (decCells zs (k + 1)) by
              have := hBk.set_ 0 (.int .i64 (IntKind.i64.wrap (decAt zs k 0 * 256 + zs.getD (8 + k) 0)))
              unfold decCells
              rw [decAt_miss zs k 1 (by omega)]
              rw [decAt_miss zs k 2 (by omega)]
              rw [decAt_miss zs k 3 (by omega)]
              rw [decAt_hit zs k 0 (by rw [hsec'.out.len]; omega) hq hlt2]
              exact this)
            generalize hv : decAt zs k 0 = v at *
            generalize hc : zs.getD (8 + k) 0 = c at *
            have hor := i64_or_low v c hcb.1 (by omega)
            rw [show IntKind.i64.wrap (v * 256) = wrap64 (v * 256) by rw [IntKind.wrap_i64]; unfold wrap64; omega] at hor
            have hor' := Lib.hid hor
            clear hor
            clear hv hc hBk hq
            go_wp2
            go_roundw
            case rel =>
              try rw [hor'.out]
              first
              | exact ⟨k + 1, by omega, by go_num, hB4.out, hTk.setCell (.inl rfl) _⟩
              | ((repeat apply Exists.intro); exact ⟨⟨k + 1, by omega, by go_num, hB4.out, hTk.setCell (.inl rfl) _⟩, rfl⟩)
            case measure => simp [intOf]; omega
          · have hqi : (k : Int) / 8 = 1 := by omega
            have hB4 := Lib.hid (show Blk (wr.setCell ⟨w2.heap.size, 1, none⟩ (.int .i64 (IntKind.i64.wrap (decAt zs k 1 * 256 + zs.getD (8 + k) 0)))) w2.heap.size 97 (decCells zs (k + 1)) by
              have := hBk.set_ 1 (.int .i64 (IntKind.i64.wrap (decAt zs k 1 * 256 + zs.getD (8 + k) 0)))
              unfold decCells
              rw [decAt_miss zs k 0 (by omega)]
              rw [decAt_miss zs k 2 (by omega)]
              rw [decAt_miss zs k 3 (by omega)]
              rw [decAt_hit zs k 1 (by rw [hsec'.out.len]; omega) hq hlt2]
              exact this)
            generalize hv : decAt zs k 1 = v at *
            generalize hc : zs.getD (8 + k) 0 = c at *
            have hor := i64_or_low v c hcb.1 (by omega)
            rw [show IntKind.i64.wrap (v * 256) = wrap64 (v * 256) by rw [IntKind.wrap_i64]; unfold wrap64; omega] at hor
            have hor' := Lib.hid hor
            clear hor
            clear hv hc hBk hq
            go_wp2
            go_roundw
            case rel =>
              try rw [hor'.out]
              first
              | exact ⟨k + 1, by omega, by go_num, hB4.out, hTk.setCell (.inl rfl) _⟩
              | ((repeat apply Exists.intro); exact ⟨⟨k + 1, by omega, by go_num, hB4.out, hTk.setCell (.inl rfl) _⟩, rfl⟩)
            case measure => simp [intOf]; omega
          · have hqi : (k : Int) / 8 = 2 := by omega
            have hB4 := Lib.hid (show Blk (wr.setCell ⟨w2.heap.size, 2, none⟩ (.int .i64 (IntKind.i64.wrap (decAt zs k 2 * 256 + zs.getD (8 + k) 0)))) w2.heap.size 97 (decCells zs (k + 1)) by
              have := hBk.set_ 2 (.int .i64 (IntKind.i64.wrap (decAt zs k 2 * 256 + zs.getD (8 + k) 0)))
              unfold decCells
              rw [decAt_miss zs k 0 (by omega)]
              rw [decAt_miss zs k 1 (by omega)]
              rw [decAt_miss zs k 3 (by omega)]
              rw [decAt_hit zs k 2 (by rw [hsec'.out.len]; omega) hq hlt2]
              exact this)
            generalize hv : decAt zs k 2 = v at *
            generalize hc : zs.getD (8 + k) 0 = c at *
            have hor := i64_or_low v c hcb.1 (by omega)
            rw [show IntKind.i64.wrap (v * 256) = wrap64 (v * 256) by rw [IntKind.wrap_i64]; unfold wrap64; omega] at hor
            have hor' := Lib.hid hor
            clear hor
            clear hv hc hBk hq
            go_wp2
            go_roundw
            case rel =>
              try rw [hor'.out]
              first
              | exact ⟨k + 1, by omega, by go_num, hB4.out, hTk.setCell (.inl rfl) _⟩
              | ((repeat apply Exists.intro); exact ⟨⟨k + 1, by omega, by go_num, hB4.out, hTk.setCell (.inl rfl) _⟩, rfl⟩)
            case measure => simp [intOf]; omega
          · have hqi : (k : Int) / 8 = 3 := by omega
            have hB4 := Lib.hid (show Blk (wr.setCell ⟨w2.heap.size, 3, none⟩ (.int .i64 (IntKind.i64.wrap (decAt zs k 3 * 256 + zs.getD (8 + k) 0)))) w2.heap.size 97 (decCells zs (k + 1)) by
              have := hBk.set_ 3 (.int .i64 (IntKind.i64.wrap (decAt zs k 3 * 256 + zs.getD (8 + k) 0)))
              unfold decCells
              rw [decAt_miss zs k 0 (by omega)]
              rw [decAt_miss zs k 1 (by omega)]
              rw [decAt_miss zs k 2 (by omega)]
              rw [decAt_hit zs k 3 (by rw [hsec'.out.len]; omega) hq hlt2]
              exact this)
            generalize hv : decAt zs k 3 = v at *
            generalize hc : zs.getD (8 + k) 0 = c at *
            have hor := i64_or_low v c hcb.1 (by omega)
            rw [show IntKind.i64.wrap (v * 256) = wrap64 (v * 256) by rw [IntKind.wrap_i64]; unfold wrap64; omega] at hor
            have hor' := Lib.hid hor
            clear hor
            clear hv hc hBk hq
            go_wp2
            go_roundw
            case rel =>
              try rw [hor'.out]
              first
              | exact ⟨k + 1, by omega, by go_num, hB4.out, hTk.setCell (.inl rfl) _⟩
              | ((repeat apply Exists.intro); exact ⟨⟨k + 1, by omega, by go_num, hB4.out, hTk.setCell (.inl rfl) _⟩, rfl⟩)
            case measure => simp [intOf]; omega
        · have hk32 : k = 32 := by omega
          subst hk32
          obtain ⟨q0, q1, q2, q3⟩ := m4_cells hBk
          have hr4' := Lib.hid (hr3'.out.turned hTk (fun e => by have : g = w2.heap.size := e; omega))
          have hT4 : Turned (fun _ => False) wo wr := ht3.trans hTk (fun _ e => e) (fun i e => by have e' : i = w2.heap.size := e; have := ht2.size; exact .inr (by omega))
          have hok := Lib.hid (M4.of_ok zs)
          have hoe : M4.of zs = ⟨decAt zs 32 0, decAt zs 32 1, decAt zs 32 2, decAt zs 32 3⟩ := rfl
          have hoe' := Lib.hid hoe
          have hob := Lib.hid (show OfCells (M4.of zs) (decAt zs 32 0) (decAt zs 32 1) (decAt zs 32 2) (decAt zs 32 3) from ⟨rfl, rfl, rfl, rfl⟩)
          clear hBk hTk hoe hr3' ht3 ht2
          generalize decAt zs 32 0 = n0 at *
          generalize decAt zs 32 1 = n1 at *
          generalize decAt zs 32 2 = n2 at *
          generalize decAt zs 32 3 = n3 at *
          have hD5 := Lib.hid (hD'.out.fresh (hT4.alloc (.cells #[.int .i64 n0, .int .i64 n1, .int .i64 n2, .int .i64 n3] 59)))
          have hB05 := Lib.hid (hB0'.out.turned (hT4.alloc (.cells #[.int .i64 n0, .int .i64 n1, .int .i64 n2, .int .i64 n3] 59)) (fun e => e))
          have hB15 := Lib.hid (hB1'.out.turned (hT4.alloc (.cells #[.int .i64 n0, .int .i64 n1, .int .i64 n2, .int .i64 n3] 59)) (fun e => e))
          have hx5 := Lib.hid (Blk.new wr 59 #[.int .i64 n0, .int .i64 n1, .int .i64 n2, .int .i64 n3])
          have hr5 := Lib.hid (hr4'.out.turned ((Turned.refl (fun _ => False) wr).alloc (.cells #[.int .i64 n0, .int .i64 n1, .int .i64 n2, .int .i64 n3] 59)) (fun e => e))
          have hT5 := (hT.trans (W := fun _ => False) hT4 (fun _ e => e) (fun _ e => e.elim)).alloc (.cells #[.int .i64 n0, .int .i64 n1, .int .i64 n2, .int .i64 n3] 59)
          have hwr := Lib.hid (show (wr.alloc (.cells #[.int .i64 n0, .int .i64 n1, .int .i64 n2, .int .i64 n3] 59)).heap.size = wr.heap.size + 1 by simp)
          go_wp2_with fail
          clear q0 q1 q2 q3
          generalize wr.alloc (.cells #[.int .i64 n0, .int .i64 n1, .int .i64 n2, .int .i64 n3] 59) = w5 at *
          generalize hbe : bestAt A j = best at *
          obtain ⟨bs, bt, bo, bm⟩ := best
          have hbe' := Lib.hid hbe
          clear hbe
          have hmt : ∀ r, (⟨n0, n1, n2, n3⟩ : M4).may = r → Calls Try.prog 59 #[.agg #[.int .i64 n0, .int .i64 n1, .int .i64 n2, .int .i64 n3]] w5 (RetNew (.bool r) w5) := fun r h => may_to ⟨n0, n1, n2, n3⟩ r w5 h
          have hmt' := Lib.hid hmt
          clear hmt
          -- what the round leaves where the sector is not the better one
          have hskip : ∀ w6, Turned (fun _ => False) w5 w6 → rdOk zs j ⟨bs, bt, bo, bm⟩ = false → RdRel d s o A w (.int .i64 ((j + 1 : Nat) : Int)) w6 := fun w6 ht6 hno => by
            refine ⟨j + 1, by omega, rfl, hD5.out.fresh ht6, hB05.out.turned ht6 (fun e => e), ?_, hT5.trans (W := fun _ => False) ht6 (fun _ e => e) (fun _ e => e.elim)⟩
            have e : bestAt A (j + 1) = ⟨bs, bt, bo, bm⟩ := by
              show rdAt (A.lat j) j (bestAt A j) = _
              rw [hzs'.out, hbe'.out]
              unfold rdAt
              rw [hno]; rfl
            rw [e]
            exact hB15.out.turned ht6 (fun e => e)
          have hskip' := Lib.hid hskip
          clear hskip
          cases hmay : (M4.of zs).may with
          | false =>
            have hno := Lib.hid (show rdOk zs j ⟨bs, bt, bo, bm⟩ = false by unfold rdOk; rw [hmay]; simp)
            have hm2 := Lib.hid (hmt'.out false (by rw [← hoe'.out]; exact hmay))
            clear hmay
            refine hm2.out.mono ?_
            rintro e w6 ⟨rfl, ht6⟩
            have hR := Lib.hid (hskip'.out w6 ht6 hno.out)
            go_wp2_with fail
            go_roundw
            case rel =>
              have hz : Value.int .i64 ((j : Int) + 1) = .int .i64 ((j + 1 : Nat) : Int) := by go_num
              first
              | (rw [hz]; exact hR.out)
              | ((repeat apply Exists.intro); exact ⟨by rw [hz]; exact hR.out, rfl⟩)
            case measure => simp [intOf]; omega
          | true =>
            have hm2 := Lib.hid (hmt'.out true (by rw [← hoe'.out]; exact hmay))
            have hmay' := Lib.hid hmay
            clear hmay
            have hand := Lib.hid (i64_and1 n0)
            refine hm2.out.mono ?_
            rintro e w6 ⟨rfl, ht6⟩
            have hx6 := hx5.out.turned ht6 (fun e => e)
            obtain ⟨q0, q1, q2, q3⟩ := m4_cells hx6
            have hb16 := hB15.out.turned ht6 (fun e => e)
            obtain ⟨p0, _, _, _⟩ := m4_cells hb16
            have hx6' := Lib.hid hx6
            clear hx6 hb16
            by_cases hpar : n0 % 2 = (j : Int)
            · have hbq : (bits BinOp.and IntKind.i64 n0 1 == (j : Int)) = true := by rw [hand.out, hpar]; simp
              have hpar' := Lib.hid hpar
              clear hpar
              go_wp2_with fail
              refine (mbytes_any ⟨n0, n1, n2, n3⟩ (by rw [← hoe'.out]; exact hok.out) _).mono ?_
              rintro e w7 ⟨g7, cap7, rfl, hr7, hg7, ht7⟩
              have hx7 := hx6'.out.turned ht7 (fun e => e)
              obtain ⟨q0, q1, q2, q3⟩ := m4_cells hx7
              have hb17 := (hB15.out.turned ht6 (fun e => e)).turned ht7 (fun e => e)
              obtain ⟨p0, _, _, _⟩ := m4_cells hb17
              have hr57 := (hr5.out.turned ht6 (fun e => e)).turned ht7 (fun e => e)
              have ht67 := ht6.trans (W := fun _ => False) ht7 (fun _ e => e) (fun _ e => e.elim)
              have hb17' := Lib.hid hb17
              clear hx7 hb17
              go_wp2_with fail
              by_cases heq : mBytes (M4.mk n0 n1 n2 n3).list = zs
              · refine (equal_to _ _ _ _ _ _ _ _ true _ hr7.bytR hr57.bytR (mBytes_sec _ rfl).byte hsec'.out.byte (decide_eq_true heq)).mono ?_
                rintro e w8 ⟨rfl, rfl⟩
                have heq' := Lib.hid heq
                clear heq
                by_cases hgt : bs < n0
                · have hyes : rdOk zs j ⟨bs, bt, bo, bm⟩ = true := by
                    unfold rdOk
                    rw [hmay'.out, hoe'.out]
                    simp only [Bool.true_and, Bool.and_eq_true, decide_eq_true_eq]
                    exact ⟨⟨hpar'.out, heq'.out⟩, hgt⟩
                  have hyes' := Lib.hid hyes
                  have hbf := hb17'.out.frozen
                  obtain ⟨p0, p1, p2, p3⟩ := m4_cells hb17'.out
                  clear hyes
                  go_wp2_with fail
                  have hR : RdRel d s o A w (.int .i64 ((j + 1 : Nat) : Int)) ((((w7.setCell ⟨w.heap.size + 1, 0, none⟩ (.int .i64 n0)).setCell ⟨w.heap.size + 1, 1, none⟩ (.int .i64 n1)).setCell ⟨w.heap.size + 1, 2, none⟩ (.int .i64 n2)).setCell ⟨w.heap.size + 1, 3, none⟩ (.int .i64 n3)) := by
                    have hb0 := hB05.out.turned ht67 (fun e => e)
                    have e : bestAt A (j + 1) = ⟨n0, n1, n2, n3⟩ := by
                      show rdAt (A.lat j) j (bestAt A j) = _
                      rw [hzs'.out, hbe'.out]
                      unfold rdAt
                      rw [hyes'.out, hoe'.out]; rfl
                    have hS : Turned (· = w.heap.size + 1) w7 ((((w7.setCell ⟨w.heap.size + 1, 0, none⟩ (.int .i64 n0)).setCell ⟨w.heap.size + 1, 1, none⟩ (.int .i64 n1)).setCell ⟨w.heap.size + 1, 2, none⟩ (.int .i64 n2)).setCell ⟨w.heap.size + 1, 3, none⟩ (.int .i64 n3)) :=
                      ((((Turned.refl (· = w.heap.size + 1) w7).setCell (.inl rfl) _).setCell (.inl rfl) _).setCell (.inl rfl) _).setCell (.inl rfl) _
                    refine ⟨j + 1, by omega, rfl, (hD5.out.fresh ht67).turned hS (fun k hk e => ?_), hb0.turned hS (fun e => by have e' : w.heap.size = w.heap.size + 1 := e; omega), ?_, (hT5.trans (W := fun _ => False) ht67 (fun _ e => e) (fun _ e => e.elim)).trans hS (fun _ e => e) (fun i e => by have e' : i = w.heap.size + 1 := e; exact .inr (by omega))⟩
                    · have e' : k = w.heap.size + 1 := e
                      have := h'.out.lt hk
                      omega
                    · rw [e]
                      exact (((hb17'.out.set_ 0 (.int .i64 n0)).set_ 1 (.int .i64 n1)).set_ 2 (.int .i64 n2)).set_ 3 (.int .i64 n3)
                  have hR := Lib.hid hR
                  go_roundw
                  case rel =>
                    have hz : Value.int .i64 ((j : Int) + 1) = .int .i64 ((j + 1 : Nat) : Int) := by go_num
                    first
                    | (rw [hz]; exact hR.out)
                    | ((repeat apply Exists.intro); exact ⟨by rw [hz]; exact hR.out, rfl⟩)
                  case measure => simp [intOf]; omega
                · have hno := Lib.hid (show rdOk zs j ⟨bs, bt, bo, bm⟩ = false by
                    unfold rdOk
                    rw [show decide ((⟨bs, bt, bo, bm⟩ : M4).seq < (M4.of zs).seq) = false by rw [hoe'.out]; exact decide_eq_false hgt]; simp)
                  have hR := Lib.hid (hskip'.out _ ht67 hno.out)
                  have hge : n0 ≤ bs := by omega
                  clear hgt
                  go_wp2_with fail
                  go_roundw
                  case rel =>
                    have hz : Value.int .i64 ((j : Int) + 1) = .int .i64 ((j + 1 : Nat) : Int) := by go_num
                    first
                    | (rw [hz]; exact hR.out)
                    | ((repeat apply Exists.intro); exact ⟨by rw [hz]; exact hR.out, rfl⟩)
                  case measure => simp [intOf]; omega
              · have hno := Lib.hid (show rdOk zs j ⟨bs, bt, bo, bm⟩ = false by
                  unfold rdOk
                  rw [show decide (mBytes (M4.of zs).list = zs) = false by rw [hoe'.out]; exact decide_eq_false heq]; simp)
                have hR := Lib.hid (hskip'.out _ ht67 hno.out)
                refine (equal_to _ _ _ _ _ _ _ _ false _ hr7.bytR hr57.bytR (mBytes_sec _ rfl).byte hsec'.out.byte (decide_eq_false heq)).mono ?_
                rintro e w8 ⟨rfl, rfl⟩
                clear heq
                go_wp2_with fail
                go_roundw
                case rel =>
                  have hz : Value.int .i64 ((j : Int) + 1) = .int .i64 ((j + 1 : Nat) : Int) := by go_num
                  first
                  | (rw [hz]; exact hR.out)
                  | ((repeat apply Exists.intro); exact ⟨by rw [hz]; exact hR.out, rfl⟩)
                case measure => simp [intOf]; omega
            · have hno := Lib.hid (show rdOk zs j ⟨bs, bt, bo, bm⟩ = false by
                unfold rdOk
                rw [show decide ((M4.of zs).seq % 2 = (j : Int)) = false by rw [hoe'.out]; exact decide_eq_false hpar]; simp)
              have hR := Lib.hid (hskip'.out _ ht6 hno.out)
              have hbq : (bits BinOp.and IntKind.i64 n0 1 == (j : Int)) = false := by rw [hand.out, beq_eq_false_iff_ne]; exact hpar
              clear hpar
              go_wp2_with fail
              go_roundw
              case rel =>
                have hz : Value.int .i64 ((j : Int) + 1) = .int .i64 ((j + 1 : Nat) : Int) := by go_num
                first
                | (rw [hz]; exact hR.out)
                | ((repeat apply Exists.intro); exact ⟨by rw [hz]; exact hR.out, rfl⟩)
              case measure => simp [intOf]; omega
    · have hj2 : j = 2 := by omega
      subst hj2
      generalize hbe : bestAt A 2 = best at *
      obtain ⟨bs, bt, bo, bm⟩ := best
      have hbe' := Lib.hid hbe
      clear hbe
      obtain ⟨p0, p1, p2, p3⟩ := m4_cells hB1'.out
      obtain ⟨q0, q1, q2, q3⟩ := m4_cells hB0'.out
      have hf := hB0'.out.frozen
      by_cases hs0 : bs = 0
      · have hm : mreadUp A = (4, M4.zero) := by unfold mreadUp; rw [hbe'.out, if_pos hs0]
        have hm' := Lib.hid hm
        have hFin := Lib.hid ((((hB0'.out.set_ 0 (.int .i64 0)).set_ 1 (.int .i64 0)).set_ 2 (.int .i64 0)).set_ 3 (.int .i64 0))
        have hTf := (((hT.setCell (p := ⟨w.heap.size, 0, none⟩) (.inr (Nat.le_refl _)) (.int .i64 0)).setCell (p := ⟨w.heap.size, 1, none⟩) (.inr (Nat.le_refl _)) (.int .i64 0)).setCell (p := ⟨w.heap.size, 2, none⟩) (.inr (Nat.le_refl _)) (.int .i64 0)).setCell (p := ⟨w.heap.size, 3, none⟩) (.inr (Nat.le_refl _)) (.int .i64 0)
        have hsb : (bs == 0) = true := by rw [beq_iff_eq]; exact hs0
        clear hs0 hm
        go_wp2_with fail
        clear q0 q1 q2 q3 p0 p1 p2 p3 hf
        generalize (((wr.setCell ⟨w.heap.size, 0, none⟩ (.int .i64 0)).setCell ⟨w.heap.size, 1, none⟩ (.int .i64 0)).setCell ⟨w.heap.size, 2, none⟩ (.int .i64 0)).setCell ⟨w.heap.size, 3, none⟩ (.int .i64 0) = wf at *
        obtain ⟨z0, z1, z2, z3⟩ := m4_cells hFin.out
        refine bodyPost_ret (v := .tuple #[.agg #[.int .i64 0, .int .i64 0, .int .i64 0, .int .i64 0], .int .i64 4]) (by simp [results, Try.results36, go_sem, z0, z1, z2, z3]) rfl ?_
        rw [hm'.out]
        exact ⟨rfl, hTf⟩
      · have hm : mreadUp A = (0, ⟨bs, bt, bo, bm⟩) := by unfold mreadUp; rw [hbe'.out, if_neg hs0]
        have hm' := Lib.hid hm
        have hFin := Lib.hid ((((hB0'.out.set_ 0 (.int .i64 bs)).set_ 1 (.int .i64 bt)).set_ 2 (.int .i64 bo)).set_ 3 (.int .i64 bm))
        have hTf := (((hT.setCell (p := ⟨w.heap.size, 0, none⟩) (.inr (Nat.le_refl _)) (.int .i64 bs)).setCell (p := ⟨w.heap.size, 1, none⟩) (.inr (Nat.le_refl _)) (.int .i64 bt)).setCell (p := ⟨w.heap.size, 2, none⟩) (.inr (Nat.le_refl _)) (.int .i64 bo)).setCell (p := ⟨w.heap.size, 3, none⟩) (.inr (Nat.le_refl _)) (.int .i64 bm)
        have hsb : (bs == 0) = false := by rw [beq_eq_false_iff_ne]; exact hs0
        clear hs0 hm
        go_wp2_with fail
        clear q0 q1 q2 q3 p0 p1 p2 p3 hf
        generalize (((wr.setCell ⟨w.heap.size, 0, none⟩ (.int .i64 bs)).setCell ⟨w.heap.size, 1, none⟩ (.int .i64 bt)).setCell ⟨w.heap.size, 2, none⟩ (.int .i64 bo)).setCell ⟨w.heap.size, 3, none⟩ (.int .i64 bm) = wf at *
        obtain ⟨z0, z1, z2, z3⟩ := m4_cells hFin.out
        refine bodyPost_ret (v := .tuple #[.agg #[.int .i64 bs, .int .i64 bt, .int .i64 bo, .int .i64 bm], .int .i64 0]) (by simp [results, Try.results36, go_sem, z0, z1, z2, z3]) rfl ?_
        rw [hm'.out]
        exact ⟨rfl, hTf⟩
-- END OF PRINT
end Go.Proofs.Ytobjoafhhchjgaa
