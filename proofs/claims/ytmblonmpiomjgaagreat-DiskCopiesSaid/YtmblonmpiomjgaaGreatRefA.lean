/-
  The document's disk (storemanref18): what its state is in memory, and the contracts of its small functions: New, Down, Sectors, Arm, crashes, find.
-/
import Derived.Test.YtmblonmpiomjgaaGreatNil
namespace Go.Proofs.YtmblonmpiomjgaaGreat
open Go.RowKit Go.Maps

/-- A sector that was written. -/
structure RS where
  key : Int
  lv : Value
  sv : Value
  lat : List Int
  saf : List Int
  op : Bool
instance : Inhabited RS := ⟨⟨0, .slice none 0 0, .slice none 0 0, [], [], false⟩⟩
/-- A whole sector of bytes. -/
def SecAt (w : World) (v : Value) (zs : List Int) : Prop := Sec zs ∧ ∃ g cap, v = .slice (some ⟨g, 0, none⟩) 512 cap ∧ RowB w 5 g 512 cap zs
theorem SecAt.turned {W : Nat → Prop} {w w' : World} {v : Value} {zs : List Int} (h : SecAt w v zs) (ht : Turned W w w') (hW : ∀ k cs, W k → ¬ Blk w k 5 cs) : SecAt w' v zs := by
  obtain ⟨h0, g, cap, rfl, hr⟩ := h
  exact ⟨h0, g, cap, rfl, hr.turned ht (fun e => by obtain ⟨cs, hb, _⟩ := hr.row; exact hW g cs e hb)⟩
/-- m sectors X lie at lv. -/
structure RowS (w : World) (base : Nat) (lv : Value) (m : Nat) (X : Nat → RS) : Prop where
  own : ∃ xs, w.ownsRow base 96 4 lv m xs ∧ ∀ i, i < m → xs[i * 4]? = some (.int .i64 (X i).key) ∧ xs[i * 4 + 1]? = some (X i).lv ∧ xs[i * 4 + 2]? = some (X i).sv ∧ xs[i * 4 + 3]? = some (.bool (X i).op)
theorem RowS.max {w : World} {base m : Nat} {lv : Value} {X : Nat → RS} (h : RowS w base lv m X) : m ≤ 9223372036854775807 := by
  obtain ⟨xs, ⟨_, h2⟩, _⟩ := h.own
  rcases h2 with ⟨_, h0⟩ | ⟨g, cap, cur, _, _, _, hn, hc, _⟩
  · omega
  · unfold maxLen at hc; omega
/-- It is a slice: the block and room, where there is one. -/
theorem RowS.open_ {w : World} {base m : Nat} {lv : Value} {X : Nat → RS} (h : RowS w base lv m X) : ∃ a cap, lv = .slice a m cap ∧ (0 < m → ∃ g cs, a = some ⟨g, 0, none⟩ ∧ base ≤ g ∧ Blk w g 96 cs ∧
    ∀ i, i < m → cs[i * 4]? = some (.int .i64 (X i).key) ∧ cs[i * 4 + 1]? = some (X i).lv ∧ cs[i * 4 + 2]? = some (X i).sv ∧ cs[i * 4 + 3]? = some (.bool (X i).op)) := by
  obtain ⟨xs, ⟨_, h2⟩, hx⟩ := h.own
  rcases h2 with ⟨rfl, h0⟩ | ⟨g, cap, cur, rfl, hb, hh, hn, hc, hs, ht⟩
  · exact ⟨none, 0, by rw [h0], fun h => by omega⟩
  · refine ⟨_, _, rfl, fun _ => ⟨g, cur, rfl, hb, hh, fun i hi => ?_⟩⟩
    have key : ∀ c v, c < 4 → xs[i * 4 + c]? = some v → cur[i * 4 + c]? = some v := by
      intro c v hc4 e
      rw [← ht, List.getElem?_take, if_pos (by omega)] at e
      simpa using e
    obtain ⟨e0, e1, e2, e3⟩ := hx i hi
    exact ⟨key 0 _ (by omega) e0, key 1 _ (by omega) e1, key 2 _ (by omega) e2, key 3 _ (by omega) e3⟩

def rdCells (n : Int) (lv : Value) (armed : Int) (down : Bool) : Array Value := #[.int .i64 n, lv, .int .i64 armed, .bool down]
/-- The document's disk at r is A; what it owns lies at 'base' or above. -/
structure IsRef (w : World) (base r : Nat) (lv : Value) (A : DA) (m : Nat) (X : Nat → RS) : Prop where
  blk : Blk w r 51 (rdCells A.n lv A.armed A.down)
  rb : base ≤ r
  n1 : 1 ≤ A.n
  n2 : A.n ≤ 8192
  a1 : 0 ≤ A.armed
  a2 : A.armed ≤ 9223372036854775807
  row : RowS w base lv m X
  key : ∀ i, i < m → 0 ≤ (X i).key ∧ (X i).key < A.n
  one : ∀ i j, i < m → j < m → (X i).key = (X j).key → i = j
  byt : ∀ i, i < m → SecAt w (X i).lv (X i).lat ∧ SecAt w (X i).sv (X i).saf
  shut : ∀ i, i < m → (X i).op = false → (X i).lat = (X i).saf
  has : ∀ i, i < m → A.lat (X i).key = (X i).lat ∧ A.saf (X i).key = (X i).saf ∧ A.opn (X i).key = (X i).op
  none_ : ∀ k, 0 ≤ k → k < A.n → (∀ i, i < m → (X i).key ≠ k) → A.lat k = noughts ∧ A.saf k = noughts ∧ A.opn k = false

/-- The blocks that the document's disk may turn. -/
def RefW (base : Nat) (w : World) (k : Nat) : Prop := base ≤ k ∧ ∃ cs, Blk w k 51 cs ∨ Blk w k 96 cs
theorem RefW.ne {base k : Nat} {w : World} (h : RefW base w k) {t : TypeId} {cs : Array Value} (hb : Blk w k t cs) (h1 : t ≠ 51) (h2 : t ≠ 96) : False := by
  obtain ⟨_, cs', h | h⟩ := h
  · exact h1 (hb.inj h).2
  · exact h2 (hb.inj h).2
theorem IsDisk.refTurned {w w' : World} {d s o base : Nat} {A : DA} (h : IsDisk w d s o A) (ht : Turned (RefW base w) w w') : IsDisk w' d s o A := by
  refine h.turned ht (fun k hk e => ?_)
  obtain ⟨vs, vo, m1, m2, _⟩ := h.maps
  rcases hk with rfl | rfl | rfl
  · exact e.ne h.blk (by decide) (by decide)
  · obtain ⟨_, cs, e | e⟩ := e
    · exact m1.ne_blk e rfl
    · exact m1.ne_blk e rfl
  · obtain ⟨_, cs, e | e⟩ := e
    · exact m2.ne_blk e rfl
    · exact m2.ne_blk e rfl
theorem RowS.turned {W : Nat → Prop} {w w' : World} {base m : Nat} {lv : Value} {X : Nat → RS} (h : RowS w base lv m X) (ht : Turned W w w') (hW : ∀ k cs, W k → ¬ Blk w k 96 cs) : RowS w' base lv m X := by
  obtain ⟨xs, ⟨h1, h2⟩, hx⟩ := h.own
  refine ⟨xs, ⟨h1, h2.imp id ?_⟩, hx⟩
  rintro ⟨g, cap, cur, hv, hb, hh, r⟩
  exact ⟨g, cap, cur, hv, hb, (ht.block g (Blk.lt (t := 96) (cs := cur) hh) (fun e => hW g cur e hh)).trans hh, r⟩
theorem IsRef.turned {W : Nat → Prop} {w w' : World} {base r m : Nat} {lv : Value} {A : DA} {X : Nat → RS} (h : IsRef w base r lv A m X) (ht : Turned W w w')
    (hW : ∀ k t cs, W k → Blk w k t cs → t ≠ 51 ∧ t ≠ 96 ∧ t ≠ 5) : IsRef w' base r lv A m X :=
  { h with
    blk := h.blk.turned ht (fun e => (hW r _ _ e h.blk).1 rfl)
    row := h.row.turned ht (fun k cs e hb => (hW k _ cs e hb).2.1 rfl)
    byt := fun i hi => ⟨(h.byt i hi).1.turned ht (fun k cs e hb => (hW k _ cs e hb).2.2 rfl), (h.byt i hi).2.turned ht (fun k cs e hb => (hW k _ cs e hb).2.2 rfl)⟩ }
theorem IsRef.fresh {w w' : World} {base r m : Nat} {lv : Value} {A : DA} {X : Nat → RS} (h : IsRef w base r lv A m X) (ht : Turned (fun _ => False) w w') : IsRef w' base r lv A m X :=
  h.turned ht (fun _ _ _ e => e.elim)
theorem IsRef.dskTurned {w w' : World} {d s o base r m : Nat} {lv : Value} {A B : DA} {X : Nat → RS} (h : IsRef w base r lv A m X) (hd : IsDisk w d s o B) (ht : Turned (dskW d s o) w w') : IsRef w' base r lv A m X := by
  refine h.turned ht (fun k t cs hk hb => ?_)
  obtain ⟨vs, vo, m1, m2, _⟩ := hd.maps
  rcases hk with rfl | rfl | rfl
  · obtain rfl := (hb.inj hd.blk).2
    exact ⟨by decide, by decide, by decide⟩
  · exact absurd rfl (m1.ne_blk hb)
  · exact absurd rfl (m2.ne_blk hb)

section
variable {w : World} {base r m : Nat} {lv : Value} {A : DA} {X : Nat → RS} (h : IsRef w base r lv A m X)
include h
theorem ref_cells : w.cell? ⟨r, 0, none⟩ = some (.int .i64 A.n) ∧ w.cell? ⟨r, 1, none⟩ = some lv ∧ w.cell? ⟨r, 2, none⟩ = some (.int .i64 A.armed) ∧ w.cell? ⟨r, 3, none⟩ = some (.bool A.down) :=
  ⟨h.blk.cell 0, h.blk.cell 1, h.blk.cell 2, h.blk.cell 3⟩
theorem rdown_any : Calls Tryz.prog 34 #[.pointer (some ⟨r, 0, none⟩)] w (RetSame (.bool A.down) w) := by
  obtain ⟨c0, c1, c2, c3⟩ := ref_cells h
  clear h
  go_enter Tryz.func34, Tryz.ntmps34
  go_wp2
  go_ret
  exact ⟨rfl, rfl⟩
theorem rsectors_any : Calls Tryz.prog 35 #[.pointer (some ⟨r, 0, none⟩)] w (RetSame (.int .i64 A.n) w) := by
  obtain ⟨c0, c1, c2, c3⟩ := ref_cells h
  clear h
  go_enter Tryz.func35, Tryz.ntmps35
  go_wp2
  go_ret
  exact ⟨rfl, rfl⟩
end

def RNewPost (n : Int) (base : Nat) (w : World) (e : Ending) (w' : World) : Prop := ∃ r, e = .returned (.pointer (some ⟨r, 0, none⟩)) ∧ IsRef w' base r (.slice none 0 0) (DA.new n) 0 (fun _ => default) ∧ Turned (fun _ => False) w w'
theorem rnew_no (n : Int) (w : World) (h : n < 1 ∨ 8192 < n) : Calls Tryz.prog 5 #[.int .i64 n] w (RetSame (.pointer none) w) := by
  by_cases h1 : n < 1
  · go_enter Tryz.func5, Tryz.ntmps5
    go_wp2
    go_ret
    exact ⟨rfl, rfl⟩
  · have h2 : 8192 < n := by omega
    clear h
    go_enter Tryz.func5, Tryz.ntmps5
    go_wp2
    go_ret
    exact ⟨rfl, rfl⟩
theorem rnew_yes (n : Int) (base : Nat) (w : World) (hb : base ≤ w.heap.size) (h1 : 1 ≤ n) (h2 : n ≤ 8192) : Calls Tryz.prog 5 #[.int .i64 n] w (RNewPost n base w) := by
  go_enter Tryz.func5, Tryz.ntmps5
  go_wp2
  go_ret
  refine ⟨w.heap.size, rfl, ⟨Blk.new w _ _, hb, h1, h2, by simp [DA.new], by simp [DA.new], ⟨[], ⟨rfl, .inl ⟨rfl, rfl⟩⟩, fun i hi => by omega⟩, fun i hi => by omega, fun i j hi => by omega, fun i hi => by omega, fun i hi => by omega, fun i hi => by omega, fun k _ _ _ => ⟨rfl, rfl, rfl⟩⟩, (Turned.refl _ _).alloc _⟩

/-- The post of what changes the document's disk. -/
def RefV (base : Nat) (w : World) (r : Nat) (lv : Value) (k : Nat) : Prop := (k = r ∨ lv.ownBlock = some k) ∧ RefW base w k
/-- Where the bytes of a row's sectors lie. -/
def BytesOf (m : Nat) (X : Nat → RS) (b : Nat) : Prop := ∃ i, i < m ∧ ((X i).lv.ownBlock = some b ∨ (X i).sv.ownBlock = some b)
/-- The row stays at its block, or lies in a new one; so do its bytes. -/
structure Near (w : World) (lv : Value) (m : Nat) (X : Nat → RS) (lv' : Value) (m' : Nat) (X' : Nat → RS) : Prop where
  row : lv'.ownBlock = lv.ownBlock ∨ ∀ k, lv'.ownBlock = some k → w.heap.size ≤ k
  byt : ∀ b, BytesOf m' X' b → BytesOf m X b ∨ w.heap.size ≤ b
theorem Near.same (w : World) (lv : Value) (m : Nat) (X : Nat → RS) : Near w lv m X lv m X := ⟨.inl rfl, fun _ h => .inl h⟩
def RPost (v : Value) (base r : Nat) (lv : Value) (m : Nat) (X : Nat → RS) (A : DA) (w : World) (e : Ending) (w' : World) : Prop := e = .returned v ∧ (∃ lv' m' X', IsRef w' base r lv' A m' X' ∧ Near w lv m X lv' m' X') ∧ Turned (RefV base w r lv) w w'
theorem refW_r {w : World} {base r m : Nat} {lv : Value} {A : DA} {X : Nat → RS} (h : IsRef w base r lv A m X) : RefW base w r := ⟨h.rb, _, .inl h.blk⟩
theorem refV_r {w : World} {base r m : Nat} {lv : Value} {A : DA} {X : Nat → RS} (h : IsRef w base r lv A m X) : RefV base w r lv r := ⟨.inl rfl, refW_r h⟩
theorem rarm_down {w : World} {base r m : Nat} {lv : Value} {A : DA} {X : Nat → RS} (h : IsRef w base r lv A m X) (hd : A.down = true) (n : Int) : Calls Tryz.prog 28 #[.pointer (some ⟨r, 0, none⟩), .int .i64 n] w (RPost (.tuple #[]) base r lv m X A w) := by
  obtain ⟨c0, c1, c2, c3⟩ := ref_cells h
  rw [hd] at c3
  have h' := Lib.hid h
  clear h hd
  go_enter Tryz.func28, Tryz.ntmps28
  go_wp2
  go_end0
  exact ⟨rfl, ⟨lv, m, X, h'.out, Near.same _ _ _ _⟩, Turned.refl _ _⟩
theorem IsRef.reset {w w' : World} {base r m : Nat} {lv : Value} {A : DA} {X : Nat → RS} (h : IsRef w base r lv A m X) {a : Int} {dn : Bool} (hb : Blk w' r 51 (rdCells A.n lv a dn)) (ha : 0 ≤ a ∧ a ≤ 9223372036854775807) (ht : Turned (· = r) w w') :
    IsRef w' base r lv { A with armed := a, down := dn } m X :=
  { h with
    blk := hb
    a1 := ha.1
    a2 := ha.2
    row := h.row.turned ht (fun k cs e hk => by subst e; exact absurd (hk.inj h.blk).2 (by decide))
    byt := fun i hi => ⟨(h.byt i hi).1.turned ht (fun k cs e hk => by subst e; exact absurd (hk.inj h.blk).2 (by decide)), (h.byt i hi).2.turned ht (fun k cs e hk => by subst e; exact absurd (hk.inj h.blk).2 (by decide))⟩ }
theorem rarm_up {w : World} {base r m : Nat} {lv : Value} {A : DA} {X : Nat → RS} (h : IsRef w base r lv A m X) (hd : A.down = false) (n : Int) (hn : n ≤ 9223372036854775807) : Calls Tryz.prog 28 #[.pointer (some ⟨r, 0, none⟩), .int .i64 n] w (RPost (.tuple #[]) base r lv m X { A with armed := nonneg n } w) := by
  obtain ⟨c0, c1, c2, c3⟩ := ref_cells h
  have hf := h.blk.frozen
  rw [hd] at c3
  have h' := Lib.hid h
  have hd' := Lib.hid hd
  clear h hd
  have key : ∀ a, 0 ≤ a ∧ a ≤ 9223372036854775807 → RPost (.tuple #[]) base r lv m X { A with armed := a } w (.returned (.tuple #[])) (w.setCell ⟨r, 2, none⟩ (.int .i64 a)) := fun a ha => by
    have ht := (Turned.refl (· = r) w).setCell (p := ⟨r, 2, none⟩) (.inl rfl) (.int .i64 a)
    refine ⟨rfl, ⟨lv, m, X, ?_, Near.same _ _ _ _⟩, ht.mono (fun i hi => .inl (by obtain rfl : i = r := hi; exact refV_r h'.out))⟩
    have := h'.out.reset (a := a) (dn := A.down) (h'.out.blk.set_ 2 (.int .i64 a)) ha ht
    exact this
  have key' := Lib.hid key
  clear key
  by_cases hn0 : 0 ≤ n
  · go_enter Tryz.func28, Tryz.ntmps28
    go_wp2
    go_end0
    rw [nonneg, if_pos hn0]
    exact key'.out n ⟨hn0, hn⟩
  · have hlt : n < 0 := by omega
    go_enter Tryz.func28, Tryz.ntmps28
    go_wp2
    go_end0
    rw [nonneg, if_neg (by omega)]
    exact key'.out 0 (by omega)

/-- A post that keeps the rows. -/
def RKept (v : Value) (base r : Nat) (lv : Value) (A : DA) (m : Nat) (X : Nat → RS) (w : World) (e : Ending) (w' : World) : Prop := e = .returned v ∧ IsRef w' base r lv A m X ∧ Turned (· = r) w w'
theorem rcrash_tick {w : World} {base r m : Nat} {lv : Value} {A : DA} {X : Nat → RS} (h : IsRef w base r lv A m X) (hd : A.down = false) :
    Calls Tryz.prog 43 #[.pointer (some ⟨r, 0, none⟩)] w (RKept (.bool (tickD A.armed)) base r lv { A with armed := tickA A.armed, down := tickD A.armed } m X w) := by
  obtain ⟨c0, c1, c2, c3⟩ := ref_cells h
  have hf := h.blk.frozen
  have h1 := h.a1
  have h2 := h.a2
  have h' := Lib.hid h
  have hd' := Lib.hid hd
  clear h
  rw [hd] at c3
  clear hd
  by_cases ha : A.armed < 1
  · have h0 : A.armed = 0 := by omega
    have h0' := Lib.hid h0
    clear h0
    go_enter Tryz.func43, Tryz.ntmps43
    go_wp2
    go_ret
    have e1 : tickD A.armed = false := by rw [h0'.out]; rfl
    have e2 : tickA A.armed = A.armed := by rw [h0'.out]; rfl
    rw [e1, e2]
    refine ⟨rfl, ?_, Turned.refl _ _⟩
    have := h'.out
    rw [show ({ A with down := false } : DA) = A from by rw [← hd'.out]]
    exact this
  · have ha' : 1 ≤ A.armed := by omega
    generalize hA : A.armed = a at *
    have hA' := Lib.hid hA
    clear hA ha
    go_enter Tryz.func43, Tryz.ntmps43
    go_wp2
    go_ret
    have e1 : tickD a = (a - 1 == 0) := by
      unfold tickD
      by_cases e : a = 1
      · subst e; rfl
      · have : (a - 1 == 0) = false := by rw [beq_eq_false_iff_ne]; omega
        rw [this, decide_eq_false e]
    have e2 : tickA a = a - 1 := by unfold tickA; rw [if_pos (by omega)]
    rw [e1, e2]
    have ht := ((Turned.refl (· = r) w).setCell (p := ⟨r, 2, none⟩) (.inl rfl) (.int .i64 (a - 1))).setCell (p := ⟨r, 3, none⟩) (.inl rfl) (.bool (a - 1 == 0))
    exact ⟨rfl, h'.out.reset ((h'.out.blk.set_ 2 _).set_ 3 _) (by omega) ht, ht⟩

def FindPost (m : Nat) (X : Nat → RS) (k : Int) (w : World) (e : Ending) (w' : World) : Prop := ∃ R : Int, e = .returned (.int .i64 R) ∧ w = w' ∧ ((∃ i : Nat, i < m ∧ R = i ∧ (X i).key = k) ∨ (R = -1 ∧ ∀ i, i < m → (X i).key ≠ k))
def FindRel (m : Nat) (X : Nat → RS) (k : Int) (v : Value) : Prop := ∃ j : Nat, j ≤ m ∧ v = .int .i64 j ∧ ∀ i, i < j → (X i).key ≠ k
set_option maxRecDepth 100000 in
theorem rfind_any {w : World} {base r m : Nat} {lv : Value} {A : DA} {X : Nat → RS} (h : IsRef w base r lv A m X) (k : Int) :
    Calls Tryz.prog 42 #[.pointer (some ⟨r, 0, none⟩), .int .i64 k] w (FindPost m X k w) := by
  obtain ⟨c0, c1, c2, c3⟩ := ref_cells h
  obtain ⟨a, cap, rfl, hrow⟩ := h.row.open_
  have hm := h.row.max
  have hrow' := Lib.hid hrow
  clear h hrow
  go_enter Tryz.func42, Tryz.ntmps42
  go_wp2
  go_loop [5] (fun v => FindRel m X k v) (fun v => m - (intOf v).toNat)
  case atStart => exact ⟨0, by omega, rfl, fun i hi => by omega⟩
  case round =>
    obtain ⟨j, hj, rfl, hall⟩ := hrel
    have hall' := Lib.hid hall
    clear hall
    by_cases hjm : j < m
    · obtain ⟨g, cs, rfl, hb, hB, hc⟩ := hrow'.out (by omega)
      have hji : (j : Int) < (m : Int) := by omega
      have hc0 := (hB.cell (j * 4)).trans (hc j hjm).1
      clear hB hc
      generalize hx : (X j).key = x at hc0
      have hx' := Lib.hid hx
      clear hx
      by_cases hxk : x = k
      · subst hxk
        go_wp2
        go_ret
        exact ⟨j, rfl, rfl, .inl ⟨j, hjm, rfl, hx'.out⟩⟩
      · have hxb : (x == k) = false := by simpa using hxk
        have hn : FindRel m X k (.int .i64 ((j + 1 : Nat) : Int)) := ⟨j + 1, by omega, rfl, fun i hi => by
          by_cases e : i = j
          · subst e; rw [hx'.out]; exact hxk
          · exact hall'.out i (by omega)⟩
        have hn' := Lib.hid hn
        clear hn hxk
        go_wp2
        go_round
        case rel => 
          have hz : Value.int .i64 ((j : Int) + 1) = .int .i64 ((j + 1 : Nat) : Int) := by go_num
          rw [hz]
          exact hn'.out
        case measure => simp [intOf]; omega
    · have hge : (m : Int) ≤ (j : Int) := by omega
      have hjm' := Lib.hid (show j = m by omega)
      go_wp2
      go_ret
      exact ⟨-1, rfl, rfl, .inr ⟨rfl, fun i hi => hall'.out i (by have := hjm'.out; omega)⟩⟩
end Go.Proofs.YtmblonmpiomjgaaGreat
