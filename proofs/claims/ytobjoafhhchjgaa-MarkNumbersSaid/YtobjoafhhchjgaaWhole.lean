/-
  DiskWhole's walk.
-/
import Derived.Test.YtobjoafhhchjgaaNil
import Derived.Test.YtobjoafhhchjgaaOpenD
namespace Go.Proofs.Ytobjoafhhchjgaa
open Go.RowKit Go.Maps

/-- Six cells at g. -/
structure Six (w : World) (g t : Nat) (f : Nat → Value) : Prop where
  row : ∃ cs, Blk w g t cs ∧ cs.size = 6 ∧ ∀ k, k < 6 → cs[k]? = some (f k)
section
variable {w w' : World} {g t : Nat} {f : Nat → Value}
theorem Six.cell (h : Six w g t f) {k : Nat} (hk : k < 6) : w.cell? ⟨g, k, none⟩ = some (f k) := let ⟨_, hb, _, hc⟩ := h.row; (hb.cell k).trans (hc k hk)
theorem Six.cells (h : Six w g t f) : w.cell? ⟨g, 0, none⟩ = some (f 0) ∧ w.cell? ⟨g, 1, none⟩ = some (f 1) ∧ w.cell? ⟨g, 2, none⟩ = some (f 2) ∧ w.cell? ⟨g, 3, none⟩ = some (f 3) ∧ w.cell? ⟨g, 4, none⟩ = some (f 4) ∧ w.cell? ⟨g, 5, none⟩ = some (f 5) :=
  ⟨h.cell (by omega), h.cell (by omega), h.cell (by omega), h.cell (by omega), h.cell (by omega), h.cell (by omega)⟩
theorem Six.frozen (h : Six w g t f) (k : Nat) : w.frozen? ⟨g, k, none⟩ = false := let ⟨_, hb, _⟩ := h.row; hb.frozen k
theorem Six.lt (h : Six w g t f) : g < w.heap.size := let ⟨_, hb, _⟩ := h.row; hb.lt
theorem Six.turned {W : Nat → Prop} (h : Six w g t f) (ht : Turned W w w') (hg : ¬ W g) : Six w' g t f := let ⟨cs, hb, hs⟩ := h.row; ⟨cs, hb.turned ht hg, hs⟩
theorem Six.far (h : Six w g t f) {p : Addr} (hp : g ≠ p.block) (u : Value) : Six (w.setCell p u) g t f := let ⟨cs, hb, hs⟩ := h.row; ⟨cs, hb.far hp u, hs⟩
theorem Six.drewN (h : Six w g t f) (n : Nat) : Six (w.drewN n) g t f := ⟨h.row⟩
theorem Six.drew (h : Six w g t f) : Six w.drew g t f := ⟨h.row⟩
theorem Six.set (h : Six w g t f) (k : Nat) (u : Value) : Six (w.setCell ⟨g, k, none⟩ u) g t (fun j => if j = k then u else f j) := by
  obtain ⟨cs, hb, hs, hc⟩ := h.row
  refine ⟨_, hb.set_ k u, by simp [hs], fun j hj => ?_⟩
  by_cases e : j = k
  · subst e
    rw [Array.getElem?_setIfInBounds_self_of_lt (by omega), if_pos rfl]
  · rw [Array.getElem?_setIfInBounds_ne (fun x => e x.symm), if_neg e, hc j hj]
theorem Six.congr {f' : Nat → Value} (h : Six w g t f) (e : ∀ k, k < 6 → f k = f' k) : Six w g t f' := let ⟨cs, hb, hs, hc⟩ := h.row; ⟨cs, hb, hs, fun k hk => by rw [← e k hk]; exact hc k hk⟩
end
theorem six_lt {P : Nat → Prop} (h0 : P 0) (h1 : P 1) (h2 : P 2) (h3 : P 3) (h4 : P 4) (h5 : P 5) : ∀ k, k < 6 → P k := by
  intro k hk
  match k, hk with
  | 0, _ => exact h0
  | 1, _ => exact h1
  | 2, _ => exact h2
  | 3, _ => exact h3
  | 4, _ => exact h4
  | 5, _ => exact h5

def byt (b : Int) : List Int := if b = 0 then noughts else fullB b
structure Tied (A : DA) (lt sf : Nat → Int) (op : Nat → Bool) : Prop where
  n : A.n = 6
  armed : A.armed = 0
  down : A.down = false
  lt_ : ∀ k, k < 6 → 0 ≤ lt k ∧ lt k ≤ 255
  sf_ : ∀ k, k < 6 → 0 ≤ sf k ∧ sf k ≤ 255
  lat : ∀ k : Nat, k < 6 → A.lat k = byt (lt k)
  saf : ∀ k : Nat, k < 6 → A.saf k = byt (sf k)
  opn : ∀ k : Nat, k < 6 → A.opn k = op k
theorem Tied.new : Tied (DA.new 6) (fun _ => 0) (fun _ => 0) (fun _ => false) := ⟨rfl, rfl, rfl, by simp, by simp, fun _ _ => rfl, fun _ _ => rfl, fun _ _ => rfl⟩
theorem Tied.sync {A : DA} {lt sf : Nat → Int} {op : Nat → Bool} (h : Tied A lt sf op) : Tied A.sync lt lt (fun _ => false) := by
  have ht : tickD A.armed = false := by rw [h.armed]; rfl
  unfold DA.sync
  rw [ht]
  exact ⟨h.n, by rw [h.armed]; rfl, rfl, h.lt_, h.lt_, h.lat, h.lat, fun _ _ => rfl⟩
theorem Tied.write {A : DA} {lt sf : Nat → Int} {op : Nat → Bool} (h : Tied A lt sf op) (k : Nat) (_hk : k < 6) (b : Int) (h1 : 1 ≤ b) (h2 : b ≤ 255) :
    Tied (A.write k (fullB b)) (fun j => if j = k then b else lt j) sf (fun j => if j = k then true else op j) := by
  have ht : tickD A.armed = false := by rw [h.armed]; rfl
  refine ⟨h.n, by show tickA A.armed = 0; rw [h.armed]; rfl, ht, fun j hj => ?_, h.sf_, fun j hj => ?_, h.saf, fun j hj => ?_⟩
  · by_cases e : j = k
    · simp only [e, if_true]; omega
    · simp only [e, if_false]; exact h.lt_ j hj
  · by_cases e : j = k
    · subst e
      simp only [DA.write, upd, if_true]
      unfold byt
      rw [if_neg (by omega)]
    · have e' : ¬ (j : Int) = (k : Int) := by omega
      simp only [DA.write, upd, e, e', if_false]
      exact h.lat j hj
  · by_cases e : j = k
    · subst e
      simp only [DA.write, upd, if_true]
    · have e' : ¬ (j : Int) = (k : Int) := by omega
      simp only [DA.write, upd, e, e', if_false]
      exact h.opn j hj

theorem pick_to (x n r : Int) (w : World) (h : x % n = r) (hn : 1 ≤ n) (hn2 : n ≤ 1000000) (hx1 : -9223372036854775808 ≤ x) (hx2 : x ≤ 9223372036854775807) :
    Calls Try.prog 16 #[.int .i64 x, .int .i64 n] w (RetSame (.int .i64 r) w) := by
  subst h
  exact pick_any x n w hn hn2 hx1 hx2

theorem or_all : ∀ k : Fin 256, 1 ≤ bits BinOp.or IntKind.u8 (k.val : Int) 1 ∧ bits BinOp.or IntKind.u8 (k.val : Int) 1 ≤ 255 := by decide +kernel
theorem or_one (z : Int) (h0 : 0 ≤ z) (h1 : z ≤ 255) : 1 ≤ bits BinOp.or IntKind.u8 z 1 ∧ bits BinOp.or IntKind.u8 z 1 ≤ 255 := by
  have := or_all ⟨z.toNat, by omega⟩
  rwa [show ((⟨z.toNat, by omega⟩ : Fin 256).val : Int) = z by show ((z.toNat : Nat) : Int) = z; omega] at this

def WhRel (d s o L n : Nat) (w wr : World) (i : Value) : Prop := ∃ (j : Nat) (lt sf : Nat → Int) (op : Nat → Bool) (A : DA), j ≤ n ∧ i = .int .i64 j ∧ IsDisk wr d s o A ∧ Tied A lt sf op ∧
  Six wr L 27 (fun k => .int .u8 (lt k)) ∧ Six wr (L + 1) 27 (fun k => .int .u8 (sf k)) ∧ Six wr (L + 1 + 1) 28 (fun k => .bool (op k)) ∧ Turned (fun _ => False) w wr

theorem wh_sync {d s o L n j : Nat} {w wr : World} {lt sf : Nat → Int} {op : Nat → Bool} {A : DA} (hjn : j < n) (hlt : ∀ k, dskW d s o k → k < L) (hwL : w.heap.size ≤ L) (hD : IsDisk wr d s o A) (hTd : Tied A lt lt (fun _ => false))
    (hL : Six wr L 27 (fun k => .int .u8 (lt k))) (hS : Six wr (L + 1) 27 (fun k => .int .u8 (sf k))) (hO : Six wr (L + 1 + 1) 28 (fun k => .bool (op k))) (hT : Turned (fun _ => False) w wr) :
    WhRel d s o L n w ((((((((((((wr.setCell ⟨L + 1, 0, none⟩ (.int .u8 (lt 0))).setCell ⟨L + 1, 1, none⟩ (.int .u8 (lt 1))).setCell ⟨L + 1, 2, none⟩ (.int .u8 (lt 2))).setCell ⟨L + 1, 3, none⟩ (.int .u8 (lt 3))).setCell ⟨L + 1, 4, none⟩ (.int .u8 (lt 4))).setCell ⟨L + 1, 5, none⟩ (.int .u8 (lt 5))).setCell
      ⟨L + 1 + 1, 0, none⟩ (.bool false)).setCell ⟨L + 1 + 1, 1, none⟩ (.bool false)).setCell ⟨L + 1 + 1, 2, none⟩ (.bool false)).setCell ⟨L + 1 + 1, 3, none⟩ (.bool false)).setCell ⟨L + 1 + 1, 4, none⟩ (.bool false)).setCell ⟨L + 1 + 1, 5, none⟩ (.bool false)) (.int .i64 ((j : Int) + 1)) := by
  have n1 : L ≠ L + 1 := by omega
  have n2 : L ≠ L + 1 + 1 := by omega
  have n3 : L + 1 ≠ L + 1 + 1 := by omega
  have n4 : L + 1 + 1 ≠ L + 1 := by omega
  refine ⟨j + 1, lt, lt, fun _ => false, A, by omega, by go_num, hD.turned (W := fun k => L ≤ k) ?_ (fun k hk e => absurd (hlt k hk) (Nat.not_lt.2 e)), hTd, ?_, ?_, ?_, ?_⟩
  · iterate 12 refine Turned.setCell ?_ (.inl (by show _ ≤ _; dsimp only; omega)) _
    exact Turned.refl _ _
  · iterate 6 refine Six.far ?_ n2 _
    iterate 6 refine Six.far ?_ n1 _
    exact hL
  · iterate 6 refine Six.far ?_ n3 _
    exact ((((((hS.set 0 _).set 1 _).set 2 _).set 3 _).set 4 _).set 5 _).congr (six_lt rfl rfl rfl rfl rfl rfl)
  · have h := (((((hO.far (p := ⟨L + 1, 0, none⟩) n4 (.int .u8 (lt 0))).far (p := ⟨L + 1, 1, none⟩) n4 (.int .u8 (lt 1))).far (p := ⟨L + 1, 2, none⟩) n4 (.int .u8 (lt 2))).far (p := ⟨L + 1, 3, none⟩) n4 (.int .u8 (lt 3))).far (p := ⟨L + 1, 4, none⟩) n4 (.int .u8 (lt 4))).far (p := ⟨L + 1, 5, none⟩) n4 (.int .u8 (lt 5))
    exact ((((((h.set 0 _).set 1 _).set 2 _).set 3 _).set 4 _).set 5 _).congr (six_lt rfl rfl rfl rfl rfl rfl)
  · iterate 12 refine Turned.setCell ?_ (.inr (by dsimp only; omega)) _
    exact hT
theorem wh_write {d s o L n j k : Nat} {w wr : World} {lt sf : Nat → Int} {op : Nat → Bool} {A : DA} {b : Int} (hjn : j < n) (hlt : ∀ k, dskW d s o k → k < L) (hwL : w.heap.size ≤ L) (hk : k < 6) (h1 : 1 ≤ b) (h2 : b ≤ 255) (hD : IsDisk wr d s o (A.write k (fullB b))) (hTd : Tied A lt sf op)
    (hL : Six wr L 27 (fun k => .int .u8 (lt k))) (hS : Six wr (L + 1) 27 (fun k => .int .u8 (sf k))) (hO : Six wr (L + 1 + 1) 28 (fun k => .bool (op k))) (hT : Turned (fun _ => False) w wr) :
    WhRel d s o L n w ((wr.setCell ⟨L, k, none⟩ (.int .u8 b)).setCell ⟨L + 1 + 1, k, none⟩ (.bool true)) (.int .i64 ((j : Int) + 1)) := by
  have n2 : L ≠ L + 1 + 1 := by omega
  have n1 : L + 1 ≠ L := by omega
  have n3 : L + 1 ≠ L + 1 + 1 := by omega
  have n4 : L + 1 + 1 ≠ L := by omega
  refine ⟨j + 1, _, _, _, _, by omega, by go_num, hD.turned (W := fun k => L ≤ k) ?_ (fun k hk e => absurd (hlt k hk) (Nat.not_lt.2 e)), hTd.write k hk b h1 h2, ?_, ?_, ?_, ?_⟩
  · iterate 2 refine Turned.setCell ?_ (.inl (by show _ ≤ _; dsimp only; omega)) _
    exact Turned.refl _ _
  · refine Six.far ?_ n2 _
    exact (hL.set k _).congr (fun i _ => by by_cases e : i = k <;> simp [e])
  · refine Six.far (Six.far hS n1 _) n3 _
  · exact ((hO.far n4 _).set k _).congr (fun i _ => by by_cases e : i = k <;> simp [e])
  · iterate 2 refine Turned.setCell ?_ (.inr (by dsimp only; omega)) _
    exact hT
theorem FatesR.ints {w : World} {B d n : Nat} {F : Option Addr} {fs : List Int} (h : FatesR w B F n fs) (hd : B ≤ d) : IntsR w d F n fs :=
  ⟨h.len, h.max, h.wf, fun hn => by
    obtain ⟨b, off, e, hlt, hc⟩ := h.cell hn
    exact ⟨b, off, e, by omega, hc⟩⟩

/-- What stands behind the waking. -/
structure Woke (A : DA) (lt sf : Nat → Int) (op : Nat → Bool) (fs : List Int) : Prop where
  n : A.n = 6
  down : A.down = false
  lt_ : ∀ k, k < 6 → 0 ≤ lt k ∧ lt k ≤ 255
  sf_ : ∀ k, k < 6 → 0 ≤ sf k ∧ sf k ≤ 255
  lat : ∀ k : Nat, k < 6 → A.lat k = byt (if op k && fs.contains (k : Int) then lt k else sf k)
theorem Tied.wake {A : DA} {lt sf : Nat → Int} {op : Nat → Bool} (h : Tied A lt sf op) (fs : List Int) : Woke (A.wake fs) lt sf op fs := by
  refine ⟨h.n, rfl, h.lt_, h.sf_, fun k hk => ?_⟩
  show (if A.opn k && fs.contains (k : Int) then A.lat k else A.saf k) = _
  rw [h.opn k hk, h.lat k hk, h.saf k hk]
  cases op k && fs.contains (k : Int) <;> rfl
theorem byt_nought {b : Int} (h : b = 0) (m : Nat) : (byt b).getD m 0 = 0 := by
  unfold byt noughts
  rw [if_pos h]
  rw [List.getD_eq_getElem?_getD, List.getElem?_replicate]
  split <;> rfl
theorem byt_full {b : Int} (h : b ≠ 0) {m : Nat} (hm : m < 512) : (byt b).getD m 0 = (b + m / 64) % 256 := by
  unfold byt fullB fullAt
  rw [if_neg h]
  simp [List.getD_eq_getElem?_getD, hm]
theorem sec_byt (b : Int) : Sec (byt b) := by
  unfold byt
  split
  · exact sec_noughts
  · exact sec_full _
def ForRel (n : Nat) (fs : List Int) (k : Int) (wo : World) (v i : Value) (wr : World) : Prop := ∃ (m q : Nat) (b : Bool), m ≤ n ∧ i = .int .i64 m ∧ v = .bool b ∧ wr = wo.drewN q ∧ b = (fs.take m).contains k
def UpRel (n : Nat) (wo : World) (i : Value) (wr : World) : Prop := ∃ m q : Nat, m ≤ n ∧ i = .int .i64 m ∧ wr = wo.drewN q
def WaRel (d s o L : Nat) (A : DA) (lt sf : Nat → Int) (op : Nat → Bool) (w wr : World) (i : Value) : Prop := ∃ k : Nat, k ≤ 6 ∧ i = .int .i64 k ∧ IsDisk wr d s o A ∧
  Six wr L 27 (fun k => .int .u8 (lt k)) ∧ Six wr (L + 1) 27 (fun k => .int .u8 (sf k)) ∧ Six wr (L + 1 + 1) 28 (fun k => .bool (op k)) ∧ Turned (fun _ => False) w wr
theorem take_hit {fs : List Int} {k : Int} {m : Nat} (hm : m < fs.length) (h : fs.getD m 0 = k) : (fs.take (m + 1)).contains k = true := by
  rw [List.contains_eq_mem, decide_eq_true_eq]
  rw [List.getD_eq_getElem?_getD, List.getElem?_eq_getElem hm] at h
  have h' : fs[m] = k := h
  rw [← h']
  exact List.mem_take_iff_getElem.2 ⟨m, by omega, rfl⟩
theorem take_more {fs : List Int} {k : Int} {m : Nat} (h : (fs.take m).contains k = true) : (fs.take (m + 1)).contains k = true := by
  rw [List.contains_eq_mem, decide_eq_true_eq] at *
  obtain ⟨i, hi, e⟩ := List.mem_take_iff_getElem.1 h
  exact List.mem_take_iff_getElem.2 ⟨i, by omega, e⟩
theorem take_miss {fs : List Int} {k : Int} {m : Nat} (hm : m < fs.length) (h : (fs.take m).contains k = false) (h2 : fs.getD m 0 ≠ k) : (fs.take (m + 1)).contains k = false := by
  rw [List.contains_eq_mem, decide_eq_false_iff_not] at *
  intro e
  obtain ⟨i, hi, e⟩ := List.mem_take_iff_getElem.1 e
  by_cases h3 : i = m
  · subst h3
    rw [List.getD_eq_getElem?_getD, List.getElem?_eq_getElem hm] at h2
    exact h2 e
  · exact h (List.mem_take_iff_getElem.2 ⟨i, by omega, e⟩)

set_option maxRecDepth 100000 in
set_option maxHeartbeats 4000000 in
theorem diskWhole_any (L0 : Option Addr) (n c : Nat) (X : Nat → DoV) (F0 : Option Addr) (fn fc : Nat) (fs : List Int) (w : World) (hL : DosR w w.heap.size L0 n X) (hF : FatesR w w.heap.size F0 fn fs) :
    Calls Try.prog 3 #[.slice L0 n c, .slice F0 fn fc] w (OkNew w) := by
  have hfm := hF.max
  have hL0 := Lib.hid hL
  have hF0 := Lib.hid hF
  clear hL hF
  by_cases h80 : n ≤ 80
  · by_cases hf1 : fn ≤ 1000
    · go_enter Try.func3, Try.ntmps3
      go_wp2_with fail
      refine (awake_any _).mono ?_
      rintro e w1 ⟨rfl, ht1⟩
      go_wp2_with fail
      refine (new_yes 6 _ (by omega) (by omega)).mono ?_
      rintro e w2 ⟨d, s, o, rfl, hD2, ht2, hfr, _⟩
      have hT2 := ht1.trans (W := fun _ => False) ht2 (fun _ h => h) (fun _ h => .inl h)
      have hfr' : ∀ k, dskW d s o k → w.heap.size ≤ k := fun k hk => Nat.le_trans ht1.size (hfr k hk)
      have hfr := Lib.hid hfr'
      have hlt := Lib.hid (fun k hk => hD2.lt (k := k) hk)
      have hwL := hT2.size
      clear hfr' ht1 ht2
      go_wp2_with fail
      go_loopw [9] (fun i wr => WhRel d s o w2.heap.size n w wr i) (fun i _ => n - (intOf i).toNat)
      case atStart =>
        exact ⟨0, _, _, _, _, Nat.zero_le _, rfl, hD2.fresh ((((Turned.refl _ _).alloc _).alloc _).alloc _), Tied.new, ⟨_, ((Blk.new w2 _ _).alloc _).alloc _, rfl, six_lt rfl rfl rfl rfl rfl rfl⟩,
          ⟨_, (Blk.new_at (w2.alloc _) _ _ (by simp)).alloc _, rfl, six_lt rfl rfl rfl rfl rfl rfl⟩, ⟨_, Blk.new_at ((w2.alloc _).alloc _) _ _ (by simp), rfl, six_lt rfl rfl rfl rfl rfl rfl⟩, ((hT2.alloc _).alloc _).alloc _⟩
      case round =>
        obtain ⟨j, lt, sf, op, A, hj, rfl, hD, hTd, hL, hS, hO, hT⟩ := hrel
        have hTd0 := Lib.hid hTd
        have hH0 := Lib.hid (And.intro hL (And.intro hS hO))
        clear hD2 hTd hL hS hO
        by_cases hjn : j < n
        · obtain ⟨lb, lo, rfl, hlb, hX⟩ := hL0.out.at_ (by omega)
          have hx := (hX j hjn).below (hT.below (fun _ e => e.elim)) hlb
          have hx0 := hx.c0
          have hx1 := hx.c1
          have hx3 := hx.c3
          have hb0 := hx.b0
          have hb1 := hx.b1
          have hb3 := hx.b3
          generalize X j = x at *
          clear hX hx
          have hjc : (j : Int) < (n : Int) := by omega
          obtain ⟨k, hk6, hk⟩ : ∃ k : Nat, k < 6 ∧ x.sec % 6 = (k : Int) := ⟨(x.sec % 6).toNat, by omega, by omega⟩
          have hk' := Lib.hid hk
          clear hk
          go_wp2_with fail
          refine (pick_to x.sec 6 k _ hk'.out (by omega) (by omega) hb1.1 hb1.2).mono ?_
          rintro e w4 ⟨rfl, rfl⟩
          go_wp2_with fail
          by_cases hop : x.op % 4 = 0
          · refine (pick_to x.op 4 0 _ hop (by omega) (by omega) hb0.1 hb0.2).mono ?_
            rintro e w5 ⟨rfl, rfl⟩
            go_wp2_with fail
            have hT0 := hTd0.out
            have ht : tickD A.armed = false := by rw [hT0.armed]; rfl
            refine (sync_to d s o A _ _ hD hT0.down ht rfl).mono ?_
            rintro e w6 ⟨rfl, hD6, ht6⟩
            have hL6 := hH0.out.1.turned ht6 (fun e => by have := hlt.out _ e; omega)
            have hS6 := hH0.out.2.1.turned ht6 (fun e => by have := hlt.out _ e; omega)
            have hO6 := hH0.out.2.2.turned ht6 (fun e => by have := hlt.out _ e; omega)
            have hT6 := hT.trans (W := fun _ => False) ht6 (fun _ h => h) (fun i hi => .inr (hfr.out i hi))
            obtain ⟨hl0, hl1, hl2, hl3, hl4, hl5⟩ := hL6.cells
            obtain ⟨hs0, hs1, hs2, hs3, hs4, hs5⟩ := hS6.cells
            obtain ⟨ho0, ho1, ho2, ho3, ho4, ho5⟩ := hO6.cells
            have hSf := hS6.frozen
            have hOf := hO6.frozen
            have hR6 := Lib.hid (wh_sync hjn hlt.out hwL hD6 hT0.sync hL6 hS6 hO6 hT6)
            clear ht ht6 hD hT hT0 hL6 hS6 hO6
            go_wp2_with fail
            go_roundw
            case rel =>
              first
              | exact hR6.out
              | ((repeat apply Exists.intro); exact ⟨hR6.out, rfl⟩)
            case measure => simp [intOf]; omega
          · obtain ⟨q, hq, hq0⟩ : ∃ q : Int, x.op % 4 = q ∧ (q == 0) = false := ⟨x.op % 4, rfl, by simpa using hop⟩
            refine (pick_to x.op 4 q _ hq (by omega) (by omega) hb0.1 hb0.2).mono ?_
            rintro e w5 ⟨rfl, rfl⟩
            obtain ⟨hz1, hz2⟩ := or_one _ hb3.1 hb3.2
            generalize bits BinOp.or IntKind.u8 x.byt 1 = b at *
            clear hop hq
            go_wp2_with fail
            refine (full_any b _ (by omega) hz2).mono ?_
            rintro e w6 ⟨g, rfl, hr6, hg6, ht6⟩
            have hD6 := hD.fresh ht6
            go_wp2_with fail
            have hT0 := hTd0.out
            have ht : tickD A.armed = false := by rw [hT0.armed]; rfl
            refine (write_to d s o A k g 512 (fullB b) _ 0 _ hD6 hT0.down (by omega) (by rw [hT0.n]; omega) hr6 (sec_full b) (by rw [ht]; rfl) rfl).mono ?_
            rintro e w7 ⟨rfl, hD7, ht7⟩
            have hL7 := (hH0.out.1.turned ht6 (fun e => e)).turned ht7 (fun e => by have := hlt.out _ e; omega)
            have hS7 := (hH0.out.2.1.turned ht6 (fun e => e)).turned ht7 (fun e => by have := hlt.out _ e; omega)
            have hO7 := (hH0.out.2.2.turned ht6 (fun e => e)).turned ht7 (fun e => by have := hlt.out _ e; omega)
            have hT7 := (hT.trans (W := fun _ => False) ht6 (fun _ h => h) (fun _ h => .inl h)).trans (W := fun _ => False) ht7 (fun _ h => h) (fun i hi => .inr (hfr.out i hi))
            have hLf := hL7.frozen k
            have hOf := hO7.frozen k
            have hl7 := hL7.cell hk6
            have ho7 := hO7.cell hk6
            have hR7 := Lib.hid (wh_write hjn hlt.out hwL hk6 hz1 hz2 hD7 hT0 hL7 hS7 hO7 hT7)
            clear ht ht6 ht7 hD hD6 hT hT0 hr6 hg6
            go_wp2_with fail
            go_roundw
            case rel =>
              first
              | exact hR7.out
              | ((repeat apply Exists.intro); exact ⟨hR7.out, rfl⟩)
            case measure => simp [intOf]; omega
        · have hge : (n : Int) ≤ (j : Int) := by omega
          go_wp2_with fail
          have hFr := hF0.out.below (hT.below (fun _ e => e.elim))
          refine (wake_any d s o A F0 fn fc fs _ hD (hFr.ints (hfr.out d (.inl rfl)))).mono ?_
          rintro e w4 ⟨rfl, hD4, ht4⟩
          have hW4 := Lib.hid (hTd0.out.wake fs)
          have hL4 := hH0.out.1.turned ht4 (fun e => by have := hlt.out _ e; omega)
          have hS4 := hH0.out.2.1.turned ht4 (fun e => by have := hlt.out _ e; omega)
          have hO4 := hH0.out.2.2.turned ht4 (fun e => by have := hlt.out _ e; omega)
          have hT4 := hT.trans (W := fun _ => False) ht4 (fun _ h => h) (fun i hi => .inr (hfr.out i hi))
          generalize A.wake fs = A4 at *
          have hR0 := Lib.hid (And.intro hD4 (And.intro hL4 (And.intro hS4 hO4)))
          clear hFr ht4 hD hT hTd0 hH0 hge hj hjn hD4 hL4 hS4 hO4
          go_wp2_with fail
          go_loopw [12] (fun i wr => WaRel d s o w2.heap.size A4 lt sf op w wr i) (fun i _ => 6 - (intOf i).toNat)
          case atStart => exact ⟨0, by omega, rfl, hR0.out.1, hR0.out.2.1, hR0.out.2.2.1, hR0.out.2.2.2, hT4⟩
          case round =>
            obtain ⟨k, hk, rfl, hD, hL, hS, hO, hT⟩ := hrel
            clear hR0 hT4
            obtain ⟨wo, hwo⟩ : ∃ wo : World, wo = wr := ⟨_, rfl⟩
            subst hwo
            by_cases hk6 : k < 6
            · have hki : (k : Int) < 6 := by omega
              have hH0 := Lib.hid (And.intro hD (And.intro hL (And.intro hS (And.intro hO hT))))
              have hFr := Lib.hid (hF0.out.below (hT.below (fun _ e => e.elim)))
              clear hD hL hS hO hT
              go_wp2_with fail
              go_loopw [13, 14] (fun v i wr => ForRel fn fs (k : Int) wo v i wr) (fun _ i _ => fn - (intOf i).toNat)
              case atStart => exact ⟨0, 0, false, Nat.zero_le _, rfl, rfl, rfl, rfl⟩
              case round =>
                obtain ⟨m, q, b, hm, rfl, rfl, rfl, hb⟩ := hrel
                have hb' := Lib.hid hb
                have hlen := Lib.hid hFr.out.len
                clear hb
                by_cases hmn : m < fn
                · obtain ⟨fb, fo, rfl, hfb, hc⟩ := hFr.out.cell (by omega)
                  have hcm' := hc m hmn
                  have hmi : (m : Int) < (fn : Int) := by omega
                  generalize hx : fs.getD m 0 = x at hcm'
                  have hx' := Lib.hid hx
                  clear hc hx
                  cases b with
                  | true =>
                    have hn := Lib.hid (take_more hb'.out.symm).symm
                    go_wp2
                    go_roundw
                    case rel =>
                      first
                      | exact ⟨m + 1, _, _, by omega, by go_num, rfl, by first | rfl | rw [World.drewN_drewN], hn.out⟩
                      | ((repeat apply Exists.intro); exact ⟨⟨m + 1, _, _, by omega, by go_num, rfl, by first | rfl | rw [World.drewN_drewN], hn.out⟩, rfl⟩)
                    case measure => simp [intOf]; omega
                  | false =>
                    by_cases hxk : x = (k : Int)
                    · subst hxk
                      have hn := Lib.hid (take_hit (by rw [hlen.out]; exact hmn) hx'.out).symm
                      go_wp2
                      go_roundw
                      case rel =>
                        first
                        | exact ⟨m + 1, _, _, by omega, by go_num, rfl, by first | rfl | rw [World.drewN_drewN], hn.out⟩
                        | ((repeat apply Exists.intro); exact ⟨⟨m + 1, _, _, by omega, by go_num, rfl, by first | rfl | rw [World.drewN_drewN], hn.out⟩, rfl⟩)
                      case measure => simp [intOf]; omega
                    · have hn := Lib.hid (take_miss (by rw [hlen.out]; exact hmn) hb'.out.symm (by rw [hx'.out]; exact hxk)).symm
                      have hxb : (x == (k : Int)) = false := by simpa using hxk
                      clear hxk
                      go_wp2
                      go_roundw
                      case rel =>
                        first
                        | exact ⟨m + 1, _, _, by omega, by go_num, rfl, by first | rfl | rw [World.drewN_drewN], hn.out⟩
                        | ((repeat apply Exists.intro); exact ⟨⟨m + 1, _, _, by omega, by go_num, rfl, by first | rfl | rw [World.drewN_drewN], hn.out⟩, rfl⟩)
                      case measure => simp [intOf]; omega
                · have hmf : m = fn := by omega
                  have hkt : b = fs.contains (k : Int) := by rw [hb'.out, hmf, ← hlen.out, List.take_length]
                  have hge : (fn : Int) ≤ (m : Int) := by omega
                  have hkt' := Lib.hid hkt
                  clear hb' hkt hmf hm
                  go_wp2_with fail
                  refine (read_to d s o A4 k (byt (if op k && b then lt k else sf k)) _ (hH0.out.1.fresh ((Turned.refl _ _).drewN q)) hW4.out.down (by omega) (by rw [hW4.out.n]; exact hki) (by rw [hW4.out.lat k hk6, hkt'.out])).mono ?_
                  rintro e w5 ⟨g, cap, rfl, hr5, hg5, ht5⟩
                  have hT5 := hH0.out.2.2.2.2.trans (W := fun _ => False) ht5.of_drewN (fun _ h => h) (fun _ h => .inl h)
                  have hD5 := hH0.out.1.fresh ht5.of_drewN
                  have hL5 := hH0.out.2.1.turned ht5.of_drewN (fun e => e)
                  have hS5 := hH0.out.2.2.1.turned ht5.of_drewN (fun e => e)
                  have hO5 := hH0.out.2.2.2.1.turned ht5.of_drewN (fun e => e)
                  have hl := hL5.cell hk6
                  have hs := hS5.cell hk6
                  have ho := hO5.cell hk6
                  have hlb := hW4.out.lt_ k hk6
                  have hsb := hW4.out.sf_ k hk6
                  have hR5 := Lib.hid (And.intro hD5 (And.intro hL5 (And.intro hS5 (And.intro hO5 hT5))))
                  have hr5' := Lib.hid hr5
                  clear hD5 hL5 hS5 hO5 hT5 hr5 hH0 hFr ht5 hg5 hkt'
                  generalize lt k = l at hl hr5' hlb
                  generalize sf k = z at hs hr5' hsb
                  generalize op k = ok at ho hr5'
                  go_wp2_with fail
                  go_loopw [17] (fun i wr => UpRel 512 w5 i wr) (fun i _ => 512 - (intOf i).toNat)
                  case atStart => exact ⟨0, 0, by omega, rfl, rfl⟩
                  case round =>
                    obtain ⟨m, q, hm, rfl, rfl⟩ := hrel
                    by_cases hm5 : m < 512
                    · have hmi : (m : Int) < 512 := by omega
                      have hc := hr5'.out.cell hm5
                      have hcases : (ok = true ∧ b = true) ∨ (ok && b) = false := by cases ok <;> cases b <;> simp
                      rcases hcases with ⟨rfl, rfl⟩ | hob
                      · rw [show (if (true && true) = true then l else z) = l from rfl] at hc
                        by_cases h0 : l = 0
                        · subst h0
                          rw [byt_nought rfl] at hc
                          go_wp2
                          go_roundw
                          case rel =>
                            first
                            | exact ⟨m + 1, _, by omega, by go_num, by first | rfl | rw [World.drewN_drewN]⟩
                            | ((repeat apply Exists.intro); exact ⟨⟨m + 1, _, by omega, by go_num, by first | rfl | rw [World.drewN_drewN]⟩, rfl⟩)
                          case measure => simp [intOf]; omega
                        · rw [byt_full h0 hm5] at hc
                          have h0b : (l == 0) = false := by simpa using h0
                          clear h0
                          go_wp2
                          go_roundw
                          case rel =>
                            first
                            | exact ⟨m + 1, _, by omega, by go_num, by first | rfl | rw [World.drewN_drewN]⟩
                            | ((repeat apply Exists.intro); exact ⟨⟨m + 1, _, by omega, by go_num, by first | rfl | rw [World.drewN_drewN]⟩, rfl⟩)
                          case measure => simp [intOf]; omega
                      · rw [hob, show (if false = true then l else z) = z from rfl] at hc
                        by_cases h0 : z = 0
                        · subst h0
                          rw [byt_nought rfl] at hc
                          cases ok with
                          | false =>
                            go_wp2
                            go_roundw
                            case rel =>
                              first
                              | exact ⟨m + 1, _, by omega, by go_num, by first | rfl | rw [World.drewN_drewN]⟩
                              | ((repeat apply Exists.intro); exact ⟨⟨m + 1, _, by omega, by go_num, by first | rfl | rw [World.drewN_drewN]⟩, rfl⟩)
                            case measure => simp [intOf]; omega
                          | true =>
                            obtain rfl : b = false := by simpa using hob
                            clear hob
                            go_wp2
                            go_roundw
                            case rel =>
                              first
                              | exact ⟨m + 1, _, by omega, by go_num, by first | rfl | rw [World.drewN_drewN]⟩
                              | ((repeat apply Exists.intro); exact ⟨⟨m + 1, _, by omega, by go_num, by first | rfl | rw [World.drewN_drewN]⟩, rfl⟩)
                            case measure => simp [intOf]; omega
                        · rw [byt_full h0 hm5] at hc
                          have h0b : (z == 0) = false := by simpa using h0
                          clear h0
                          cases ok with
                          | false =>
                            go_wp2
                            go_roundw
                            case rel =>
                              first
                              | exact ⟨m + 1, _, by omega, by go_num, by first | rfl | rw [World.drewN_drewN]⟩
                              | ((repeat apply Exists.intro); exact ⟨⟨m + 1, _, by omega, by go_num, by first | rfl | rw [World.drewN_drewN]⟩, rfl⟩)
                            case measure => simp [intOf]; omega
                          | true =>
                            obtain rfl : b = false := by simpa using hob
                            clear hob
                            go_wp2
                            go_roundw
                            case rel =>
                              first
                              | exact ⟨m + 1, _, by omega, by go_num, by first | rfl | rw [World.drewN_drewN]⟩
                              | ((repeat apply Exists.intro); exact ⟨⟨m + 1, _, by omega, by go_num, by first | rfl | rw [World.drewN_drewN]⟩, rfl⟩)
                            case measure => simp [intOf]; omega
                    · have hge5 : (512 : Int) ≤ (m : Int) := by omega
                      have hRn : WaRel d s o w2.heap.size A4 lt sf op w (w5.drewN q) (.int .i64 ((k : Int) + 1)) :=
                        ⟨k + 1, by omega, by go_num, hR5.out.1.fresh ((Turned.refl _ _).drewN q), hR5.out.2.1.drewN q, hR5.out.2.2.1.drewN q, hR5.out.2.2.2.1.drewN q, hR5.out.2.2.2.2.drewN q⟩
                      have hRn' := Lib.hid hRn
                      clear hRn
                      go_wp2
                      go_roundw
                      case rel =>
                        first
                        | exact hRn'.out
                        | ((repeat apply Exists.intro); exact ⟨hRn'.out, rfl⟩)
                      case measure => simp [intOf]; omega
            · go_wp2
              go_ret
              exact ⟨rfl, hT⟩
    · have hf1' : (1000 : Int) < (fn : Int) := by omega
      clear hf1
      go_enter Try.func3, Try.ntmps3
      go_wp2_with fail
      refine (awake_any _).mono ?_
      rintro e w1 ⟨rfl, ht1⟩
      go_wp2_with fail
      go_ret
      exact ⟨rfl, ht1⟩
  · have h80' : (80 : Int) < (n : Int) := by omega
    clear h80
    go_enter Try.func3, Try.ntmps3
    go_wp2_with fail
    refine (awake_any _).mono ?_
    rintro e w1 ⟨rfl, ht1⟩
    go_wp2_with fail
    go_ret
    exact ⟨rfl, ht1⟩
end Go.Proofs.Ytobjoafhhchjgaa
