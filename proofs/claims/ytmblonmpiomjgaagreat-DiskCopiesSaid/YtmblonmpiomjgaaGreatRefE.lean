/-
  The document's disk: Write.
-/
import Derived.Test.YtmblonmpiomjgaaGreatRefD
import Derived.Test.YtmblonmpiomjgaaGreatFates
import Derived.Deep.RegionLaw
namespace Go.Proofs.YtmblonmpiomjgaaGreat
open Go.RowKit Go.Maps

theorem own_some {w : World} {base size n : Nat} {e : TypeId} {v : Value} {xs : List Value} (h : w.ownsRow base e size v n xs) (hn : 0 < n) : ∃ g cap, v = .slice (some ⟨g, 0, none⟩) n cap := by
  obtain ⟨_, h2⟩ := h
  rcases h2 with ⟨_, h0⟩ | ⟨g, cap, cur, hv, _⟩
  · omega
  · exact ⟨g, cap, hv⟩
theorem step_append_own {P : Program} {ops : Array Oper} {o : Oper} {a : Act} {w : World} {K : Act → World → Prop} {Q : Exit → Act → World → Prop} {E : Prop} (hg : o.guard = none) (s x : Operand) (t : TypeId) (ho : o.op = .call { callee := .builtin .append, args := #[s, x], argTypes := #[t, t] })
    (base : Nat) (e : TypeId) (i : TypeInfo) (z : Value) (size bytes : Nat) (ht : P.underlying t = some (.slice e)) (hi : P.info? e = some i) (hz : i.zero = some z) (hsize : i.size = size) (hby : i.bytes = bytes) (hzs : z.cells.size = size) (hsz : 0 < size)
    (v : Value) (n : Nat) (xs : List Value) (hs : a.eval s = v) (hown : w.ownsRow base e size v n xs) (ad : Addr) (m c : Nat) (news : List Value) (hx : a.eval x = .slice (some ad) m c) (hl : news.length = m * size)
    (hnews : ∀ j u, news[j]? = some u → w.cell? (ad.add j) = some u) (h1 : ∀ u ∈ news, u.oneCell' = true) (h63 : n + m ≤ maxLen) (hbytes : (n + m) * bytes ≤ 140737488355328) (hbase : base ≤ w.heap.size)
    (hK : ∀ v' w', w'.ownsRow base e size v' (n + m) (xs ++ news) → w.grownBy w' v.ownBlock → (v'.ownBlock = v.ownBlock ∨ v'.ownBlock = some w.heap.size) → K (a.put o.dst v') w') :
    if Region.wanted o (yielded ops a.tmps) = true then Oper.wp P o a w K Q else E := by
  rw [if_pos (by simp [Region.wanted, hg])]
  obtain ⟨v', w', hr, h2, h3, h4, h5⟩ := run_append_own_at (P := P) w base t o.type e i z size bytes ht hi hz hsize hby hzs hsz v n xs hown ad m c news hl hnews h1 h63 hbytes hbase
  unfold Oper.wp execOp
  simp only [ho, resolve, invoke, builtin, Sem.run_bind, Sem.run_pure, Result.andThen_ok, List.map_toArray, List.map_cons, List.map_nil, hs, hx, hr]
  exact hK v' w' h2 h3 h5
theorem wp_bytes_none {P : Program} {S U : TypeId} {o : Oper} {a : Act} {w : World} {K : Act → World → Prop} {Q : Exit → Act → World → Prop} (B : BytT P S U) (hop : o.op = Op.buildSlice S 0 #[])
    (hC : K (a.put o.dst (.slice (some ⟨w.heap.size, 0, none⟩) 0 0)) (w.alloc (.cells #[] U))) : o.wp P a w K Q := by
  have hrun : (Instr.buildSlice S 0 #[]).run P w = .ok (.slice (some ⟨w.heap.size, 0, none⟩) 0 0) (w.alloc (.cells #[] U)) := by
    obtain ⟨i, hi, hz0, hz1, hz2⟩ := info_parts B.info
    simp [Instr.buildSlice, run_underlying B.und, sizeOf, typeInfo, hi, Instr.fill, newRow, Result.andThen]
    have : ∀ f : Nat → Value, Array.map f (Array.range 0) = #[] := fun f => by simp [Array.range]
    rw [this]
  unfold Oper.wp
  simp only [execOp, hop, Sem.run_bind, List.map_toArray, List.map_nil, hrun, Result.andThen, Sem.run_pure]
  exact hC
theorem wp_append_bytes {P : Program} {S U : TypeId} {o : Oper} {a : Act} {w : World} {K : Act → World → Prop} {Q : Exit → Act → World → Prop} (B : BytT P S U) (s x : Operand) (hop : o.op = .call { callee := .builtin .append, args := #[s, x], argTypes := #[S, S] })
    (base : Nat) (v : Value) (n : Nat) (xs zs : List Int) (hs : a.eval s = v) (hown : w.ownsRow base U 1 v n (u8s xs)) (ad : Addr) (m c : Nat) (hx : a.eval x = .slice (some ad) m c) (hl : zs.length = m)
    (hnews : ∀ j u, (u8s zs)[j]? = some u → w.cell? (ad.add j) = some u) (hm : 0 < m) (hb : n + m ≤ 140737488355328) (hbase : base ≤ w.heap.size)
    (hC : ∀ g cap w', RowB w' U g (n + m) cap (xs ++ zs) → w.grownBy w' v.ownBlock → (v.ownBlock = some g ∨ g = w.heap.size) → g < w'.heap.size → K (a.put o.dst (.slice (some ⟨g, 0, none⟩) (n + m) cap)) w') : o.wp P a w K Q := by
  obtain ⟨i, hi, hz0, hz1, hz2⟩ := info_parts B.info
  obtain ⟨v', w', hr, h2, h3, _, h5⟩ := run_append_own_at (P := P) w base S o.type U i (.int .u8 0) 1 1 B.und hi hz0 hz1 hz2 rfl (by omega) v n (u8s xs) hown ad m c (u8s zs) (by rw [u8s_length, hl, Nat.mul_one]) hnews (u8s_one zs) (by simp only [maxLen]; omega) (by omega) hbase
  obtain ⟨g, cap, rfl⟩ := own_some h2 (by omega)
  unfold Oper.wp execOp
  simp only [hop, resolve, invoke, builtin, Sem.run_bind, Sem.run_pure, Result.andThen_ok, List.map_toArray, List.map_cons, List.map_nil, hs, hx, hr]
  have hr' := RowB.of_own (base := base) (zs := xs ++ zs) (by
    have : u8s (xs ++ zs) = u8s xs ++ u8s zs := by simp [u8s]
    rw [this]; exact h2)
  refine hC g cap w' hr' h3 ?_ hr'.lt
  rcases h5 with e | e
  · exact .inl (by rw [← e]; rfl)
  · exact .inr (by simpa [Value.ownBlock] using e)
theorem secinfo : (Tryz.prog.info? 96).map (fun i => (i.zero, i.size, i.bytes)) = some (some (.agg #[.int .i64 0, .slice none 0 0, .slice none 0 0, .bool false]), 4, 64) := by kernel_rfl
theorem make_sector (w : World) : (Instr.makeSlice 37 (.int .i64 512) (.int .i64 512)).run Tryz.prog w = .ok (.slice (some ⟨w.heap.size, 0, none⟩) 512 512) (w.alloc (.cells (u8s noughts).toArray 5)) := by
  obtain ⟨i0, hi0, hz0, hz1, hz2⟩ := info_parts u8info
  have h := run_makeSlice (P := Tryz.prog) w 37 5 i0 (.int .u8 0) Tryz.underlying37 hi0 hz0 .i64 .i64 512 512 (by omega) (by omega) (by rw [hz1]; simp) (by rw [hz2]; simp) (by omega)
  have e : madeCells (Value.int .u8 0).cells (512 * 1) = (u8s noughts).toArray := by
    rw [← Array.toArray_toList (xs := madeCells (Value.int .u8 0).cells (512 * 1)), made_u8]
    rfl
  rw [hz1, show (512 : Int).toNat = 512 from rfl, e] at h
  exact h

theorem news4 {w : World} {g : Nat} {t : TypeId} {v0 v1 v2 v3 : Value} (hb : Blk w g t #[v0, v1, v2, v3]) : ∀ j u, [v0, v1, v2, v3][j]? = some u → w.cell? ((⟨g, 0, none⟩ : Addr).add j) = some u := by
  intro j u hu
  rw [Addr.add_mid, Nat.zero_add, hb.cell]
  simpa using hu
theorem RowS.more {w2 : World} {base m : Nat} {v : Value} {X : Nat → RS} {xs : List Value} (hlen : xs.length = m * 4) (hx : ∀ i, i < m → xs[i * 4]? = some (.int .i64 (X i).key) ∧ xs[i * 4 + 1]? = some (X i).lv ∧ xs[i * 4 + 2]? = some (X i).sv ∧ xs[i * 4 + 3]? = some (.bool (X i).op)) (x : RS)
    (hown : w2.ownsRow base 96 4 v (m + 1) (xs ++ [.int .i64 x.key, x.lv, x.sv, .bool x.op])) : RowS w2 base v (m + 1) (fun t => if t = m then x else X t) := by
  refine ⟨_, hown, fun i hi => ?_⟩
  by_cases e : i = m
  · subst e
    simp only [if_true]
    refine ⟨?_, ?_, ?_, ?_⟩
    · rw [List.getElem?_append_right (by omega), hlen, show i * 4 - i * 4 = 0 by omega]; rfl
    · rw [List.getElem?_append_right (by omega), hlen, show i * 4 + 1 - i * 4 = 1 by omega]; rfl
    · rw [List.getElem?_append_right (by omega), hlen, show i * 4 + 2 - i * 4 = 2 by omega]; rfl
    · rw [List.getElem?_append_right (by omega), hlen, show i * 4 + 3 - i * 4 = 3 by omega]; rfl
  · simp only [e, if_false]
    obtain ⟨h0, h1, h2, h3⟩ := hx i (by omega)
    exact ⟨by rw [List.getElem?_append_left (by omega)]; exact h0, by rw [List.getElem?_append_left (by omega)]; exact h1, by rw [List.getElem?_append_left (by omega)]; exact h2, by rw [List.getElem?_append_left (by omega)]; exact h3⟩
theorem IsRef.written_new {w w' : World} {base r m : Nat} {lv v : Value} {A : DA} {X : Nat → RS} (h : IsRef w base r lv A m X) {k : Int} (h0 : 0 ≤ k) (h1 : k < A.n) (hno : ∀ i, i < m → (X i).key ≠ k) {zs : List Int} (L S : Value) (hb : Blk w' r 51 (rdCells A.n v A.armed A.down))
    (hr : RowS w' base v (m + 1) (fun t => if t = m then ⟨k, L, S, zs, noughts, true⟩ else X t)) (hL : SecAt w' L zs) (hS : SecAt w' S noughts) {W : Nat → Prop} (ht : Turned W w w') (hW : ∀ k cs, W k → ¬ Blk w k 5 cs) :
    IsRef w' base r v { A with lat := upd A.lat k zs, opn := upd A.opn k true } (m + 1) (fun t => if t = m then ⟨k, L, S, zs, noughts, true⟩ else X t) := by
  obtain ⟨n1, n2, n3⟩ := h.none_ k h0 h1 hno
  refine ⟨hb, h.rb, h.n1, h.n2, h.a1, h.a2, hr, fun i hi => ?_, fun i j hi hj => ?_, fun i hi => ?_, fun i hi => ?_, fun i hi => ?_, fun q q0 q1 hq => ?_⟩
  · by_cases e : i = m
    · simp only [e, if_true]; exact ⟨h0, h1⟩
    · simp only [e, if_false]; exact h.key i (by omega)
  · by_cases e : i = m <;> by_cases e2 : j = m
    · intro _; omega
    · simp only [e, e2, if_true, if_false]; exact fun x => absurd x.symm (hno j (by omega))
    · simp only [e, e2, if_true, if_false]; exact fun x => absurd x (hno i (by omega))
    · simp only [e, e2, if_false]; exact h.one i j (by omega) (by omega)
  · by_cases e : i = m
    · simp only [e, if_true]; exact ⟨hL, hS⟩
    · simp only [e, if_false]
      exact ⟨(h.byt i (by omega)).1.turned ht hW, (h.byt i (by omega)).2.turned ht hW⟩
  · by_cases e : i = m
    · simp only [e, if_true]; intro x; cases x
    · simp only [e, if_false]; exact h.shut i (by omega)
  · by_cases e : i = m
    · simp only [e, if_true]; exact ⟨by simp [upd], n2, by simp [upd]⟩
    · simp only [e, if_false]
      obtain ⟨a1, a2, a3⟩ := h.has i (by omega)
      have hk := hno i (by omega)
      exact ⟨by simp [upd, hk, a1], a2, by simp [upd, hk, a3]⟩
  · have hqm := hq m (by omega)
    simp only [if_true] at hqm
    have := h.none_ q q0 q1 (fun i hi => by have := hq i (by omega); rwa [if_neg (by omega)] at this)
    have hk : ¬ q = k := fun e => hqm e.symm
    exact ⟨by simp [upd, hk, this.1], this.2.1, by simp [upd, hk, this.2.2]⟩
theorem IsRef.written_old {w w' : World} {base r m : Nat} {lv : Value} {A : DA} {X : Nat → RS} (h : IsRef w base r lv A m X) {i0 : Nat} (hi0 : i0 < m) {zs : List Int} (L : Value) (hb : Blk w' r 51 (rdCells A.n lv A.armed A.down))
    (hr : RowS w' base lv m (fun t => if t = i0 then { X i0 with lv := L, lat := zs, op := true } else X t)) (hL : SecAt w' L zs) {W : Nat → Prop} (ht : Turned W w w') (hW : ∀ k cs, W k → ¬ Blk w k 5 cs) :
    IsRef w' base r lv { A with lat := upd A.lat (X i0).key zs, opn := upd A.opn (X i0).key true } m (fun t => if t = i0 then { X i0 with lv := L, lat := zs, op := true } else X t) := by
  have hk : ∀ t, (if t = i0 then { X i0 with lv := L, lat := zs, op := true } else X t : RS).key = (X t).key := fun t => by
    by_cases e : t = i0
    · simp [e]
    · simp [e]
  refine ⟨hb, h.rb, h.n1, h.n2, h.a1, h.a2, hr, fun i hi => by rw [hk]; exact h.key i hi, fun i j hi hj => by rw [hk, hk]; exact h.one i j hi hj, fun i hi => ?_, fun i hi => ?_, fun i hi => ?_, fun q q0 q1 hq => ?_⟩
  · by_cases e : i = i0
    · simp only [e, if_true]; exact ⟨hL, (h.byt i0 hi0).2.turned ht hW⟩
    · simp only [e, if_false]
      exact ⟨(h.byt i hi).1.turned ht hW, (h.byt i hi).2.turned ht hW⟩
  · by_cases e : i = i0
    · simp only [e, if_true]; intro x; cases x
    · simp only [e, if_false]; exact h.shut i hi
  · rw [hk]
    by_cases e : i = i0
    · simp only [e, if_true]; exact ⟨by simp [upd], (h.has i0 hi0).2.1, by simp [upd]⟩
    · simp only [e, if_false]
      obtain ⟨a1, a2, a3⟩ := h.has i hi
      have hne : ¬ (X i).key = (X i0).key := fun x => e (h.one i i0 hi hi0 x)
      exact ⟨by simp [upd, hne, a1], a2, by simp [upd, hne, a3]⟩
  · have := h.none_ q q0 q1 (fun i hi => by have := hq i hi; rwa [hk] at this)
    have hne : ¬ q = (X i0).key := fun x => by have := hq i0 hi0; rw [hk] at this; exact this x.symm
    exact ⟨by simp [upd, hne, this.1], this.2.1, by simp [upd, hne, this.2.2]⟩
theorem IsRef.few {w : World} {base r m : Nat} {lv : Value} {A : DA} {X : Nat → RS} (h : IsRef w base r lv A m X) : m ≤ 8192 := by
  have := nodup_below 8192 ((List.range m).map fun i => (X i).key.toNat) (by
    unfold List.Nodup
    rw [List.pairwise_map]
    refine List.Pairwise.imp_of_mem (fun {a b} ha hb hab e => hab ?_) (List.nodup_range (n := m))
    have h1 := h.key a (List.mem_range.1 ha)
    have h2 := h.key b (List.mem_range.1 hb)
    exact h.one a b (List.mem_range.1 ha) (List.mem_range.1 hb) (by omega)) (fun x hx => by
      obtain ⟨i, hi, rfl⟩ := List.mem_map.1 hx
      have h1 := h.key i (List.mem_range.1 hi)
      have h2 := h.n2
      omega)
  simpa using this

section
variable {w : World} {base r m : Nat} {lv : Value} {A : DA} {X : Nat → RS} (h : IsRef w base r lv A m X) (k : Int) (b : Option Addr) (n c : Nat)
include h
theorem rwrite_down (hd : A.down = true) : Calls Tryz.prog 23 #[.pointer (some ⟨r, 0, none⟩), .int .i64 k, .slice b n c] w (RetSame (.int .i64 8) w) := by
  obtain ⟨c0, c1, c2, c3⟩ := ref_cells h
  rw [hd] at c3
  clear h hd
  go_enter Tryz.func23, Tryz.ntmps23
  go_wp2
  go_ret
  exact ⟨rfl, rfl⟩
theorem rwrite_none (hd : A.down = false) (hk : k < 0 ∨ A.n ≤ k) : Calls Tryz.prog 23 #[.pointer (some ⟨r, 0, none⟩), .int .i64 k, .slice b n c] w (RetSame (.int .i64 6) w) := by
  obtain ⟨c0, c1, c2, c3⟩ := ref_cells h
  rw [hd] at c3
  clear h hd
  by_cases hneg : k < 0
  · go_enter Tryz.func23, Tryz.ntmps23
    go_wp2
    go_ret
    exact ⟨rfl, rfl⟩
  · have hge : A.n ≤ k := by omega
    clear hk
    go_enter Tryz.func23, Tryz.ntmps23
    go_wp2
    go_ret
    exact ⟨rfl, rfl⟩
theorem rwrite_arg (hd : A.down = false) (h0 : 0 ≤ k) (h1 : k < A.n) (hn : ((n : Int) != 512) = true) : Calls Tryz.prog 23 #[.pointer (some ⟨r, 0, none⟩), .int .i64 k, .slice b n c] w (RetSame (.int .i64 2) w) := by
  obtain ⟨c0, c1, c2, c3⟩ := ref_cells h
  rw [hd] at c3
  clear h hd
  go_enter Tryz.func23, Tryz.ntmps23
  go_wp2
  go_ret
  exact ⟨rfl, rfl⟩
end
theorem RowG.putL {w : World} {base g cap m i : Nat} {X : Nat → RS} (h : RowG w base g cap m X) (hi : i < m) (L : Value) (zs : List Int) : RowG (w.setCell ⟨g, i * 4 + 1, none⟩ L) base g cap m (fun t => if t = i then { X i with lv := L, lat := zs } else X t) := by
  refine h.set hi (by omega) L _ (fun t ht c hc => ?_)
  by_cases e : t = i
  · subst e
    simp only [if_true, true_and]
    by_cases e2 : c = 1
    · subst e2; rfl
    · rw [if_neg e2]; unfold RS.cell; simp only [if_neg e2]
  · rw [if_neg (show ¬ (t = i ∧ c = 1) from fun x => e x.1)]; simp only [if_neg e]
theorem RowG.putO {w : World} {base g cap m i : Nat} {X : Nat → RS} (h : RowG w base g cap m X) (hi : i < m) :
    RowG (w.setCell ⟨g, i * 4 + 3, none⟩ (.bool true)) base g cap m (fun t => if t = i then { X i with op := true } else X t) := by
  refine h.set hi (by omega) _ _ (fun t ht c hc => ?_)
  by_cases e : t = i
  · subst e
    simp only [if_true, true_and]
    by_cases e2 : c = 3
    · subst e2; rfl
    · rw [if_neg e2]
      match c, hc, e2 with
      | 0, _, _ => rfl
      | 1, _, _ => rfl
      | 2, _, _ => rfl
      | 3, _, x => exact absurd rfl x
  · rw [if_neg (show ¬ (t = i ∧ c = 3) from fun x => e x.1)]; simp only [if_neg e]
theorem near_old {w : World} {lv lv' : Value} {m i : Nat} {X : Nat → RS} {g cap n : Nat} {zs : List Int} (hO : lv'.ownBlock = lv.ownBlock ∨ ∀ k, lv'.ownBlock = some k → w.heap.size ≤ k) (hg : w.heap.size ≤ g) (hi : i < m) :
    Near w lv m X lv' m (fun t => if t = i then { X i with lv := .slice (some ⟨g, 0, none⟩) n cap, lat := zs, op := true } else X t) := ⟨hO, fun b ⟨t, ht, hb⟩ => by
  by_cases e : t = i
  · simp only [e, if_true] at hb
    rcases hb with hb | hb
    · have : g = b := by simpa [Value.ownBlock] using hb
      exact .inr (by omega)
    · exact .inl ⟨i, hi, .inr hb⟩
  · simp only [e, if_false] at hb
    exact .inl ⟨t, ht, hb⟩⟩
theorem near_new {w : World} {lv lv' : Value} {m : Nat} {X : Nat → RS} {g cap n s sc sn : Nat} {k : Int} {zs ys : List Int} (hO : lv'.ownBlock = lv.ownBlock ∨ ∀ k, lv'.ownBlock = some k → w.heap.size ≤ k) (hg : w.heap.size ≤ g) (hs : w.heap.size ≤ s) :
    Near w lv m X lv' (m + 1) (fun t => if t = m then ⟨k, .slice (some ⟨g, 0, none⟩) n cap, .slice (some ⟨s, 0, none⟩) sn sc, zs, ys, true⟩ else X t) := ⟨hO, fun b ⟨t, ht, hb⟩ => by
  by_cases e : t = m
  · simp only [e, if_true] at hb
    rcases hb with hb | hb
    · have : g = b := by simpa [Value.ownBlock] using hb
      exact .inr (by omega)
    · have : s = b := by simpa [Value.ownBlock] using hb
      exact .inr (by omega)
  · simp only [e, if_false] at hb
    exact .inl ⟨t, by omega, hb⟩⟩
theorem rcrash_to {w : World} {base r m : Nat} {lv : Value} {A B : DA} {X : Nat → RS} {b : Bool} (h : IsRef w base r lv A m X) (hd : A.down = false) (hb : tickD A.armed = b) (hB : { A with armed := tickA A.armed, down := tickD A.armed } = B) :
    Calls Tryz.prog 43 #[.pointer (some ⟨r, 0, none⟩)] w (RKept (.bool b) base r lv B m X w) := by
  subst hb hB
  exact rcrash_tick h hd
set_option maxRecDepth 100000 in
set_option maxHeartbeats 2000000 in
theorem rwrite_ok {w : World} {base r m : Nat} {lv : Value} {A : DA} {X : Nat → RS} (h : IsRef w base r lv A m X) (k : Int) (g cap : Nat) (zs : List Int) (hd : A.down = false) (h0 : 0 ≤ k) (h1 : k < A.n) (hr : RowB w 5 g 512 cap zs) (hz : Sec zs) :
    Calls Tryz.prog 23 #[.pointer (some ⟨r, 0, none⟩), .int .i64 k, .slice (some ⟨g, 0, none⟩) 512 cap] w (RPost (.int .i64 (codeOf (tickD A.armed))) base r lv m X (A.write k zs) w) := by
  obtain ⟨c0, c1, c2, c3⟩ := ref_cells h
  have hf := h.blk.frozen
  rw [hd] at c3
  have h' := Lib.hid h
  have hd' := Lib.hid hd
  clear hd
  go_enter Tryz.func23, Tryz.ntmps23
  go_wp2_with fail
  refine (rfind_any h'.out k).mono ?_
  rintro e w1 ⟨R, rfl, rfl, hR⟩
  clear h
  have hlvW : ∀ k, lv.ownBlock = some k → RefV base w r lv k := fun k hk => by
    rcases h'.out.row.openG with ⟨rfl, _⟩ | ⟨g', cap', rfl, hG⟩
    · cases hk
    · obtain ⟨cs, hb⟩ := hG.blk
      have : g' = k := by simpa [Value.ownBlock] using hk
      subst this
      exact ⟨.inr hk, hG.ge, cs, .inr hb⟩
  rcases hR with ⟨i, him, rfl, hkey⟩ | ⟨rfl, hno⟩
  · have hk' := Lib.hid hkey
    rcases h'.out.row.openG with ⟨_, h0m⟩ | ⟨g5, cap5, rfl, hGm⟩
    · omega
    have hBm := h'.out.blk
    have hne5 : g5 ≠ r := by
      obtain ⟨cs, hb⟩ := hGm.blk
      exact fun e => by subst e; exact absurd (hb.inj hBm).2 (by decide)
    have hrm := hr
    have hfew := h'.out.few
    have hW5 : ∀ i, i = g5 → RefV base w r (.slice (some ⟨g5, 0, none⟩) m cap5) i ∨ w.heap.size ≤ i := by
      intro i hi
      rw [hi]
      exact .inl (hlvW g5 rfl)
    have hO5 : (Value.slice (some ⟨g5, 0, none⟩) m cap5).ownBlock = (Value.slice (some ⟨g5, 0, none⟩) m cap5).ownBlock ∨ ∀ k, (Value.slice (some ⟨g5, 0, none⟩) m cap5).ownBlock = some k → w.heap.size ≤ k := .inl rfl
    have hwm : w.heap.size ≤ w.heap.size := Nat.le_refl _
    have hTm : Turned (fun i => i = r ∨ (Value.slice (some ⟨g5, 0, none⟩) m cap5).ownBlock = some i) w w := Turned.refl _ _
    have d1 : w.cell? ⟨r, 1, none⟩ = some (.slice (some ⟨g5, 0, none⟩) m cap5) := c1
    have hi0 : ((i : Int) < 0) = False := by simp
    clear hkey c0 c1 c2 c3 hf hr
    go_wp2_with fail
    -- THE REST IS PRINTED BY wip/gen_refe.py: old
    refine wp_region_order (fun w' => w'.cell? ⟨r, 1, none⟩ = some (.slice (some ⟨g5, 0, none⟩) (m) cap5)) [0, 1, 2, 3, 4, 6] [5, 7, 8, 9, 10] mixed (by kernel_rfl) (fun _ _ _ _ _ h => h) d1 ?_
    simp only [pickOps, List.filterMap_cons, List.filterMap_nil, List.getElem?_cons_zero, List.getElem?_cons_succ]
    iterate 6 (refine wpHead_step (v := ?_) rfl (fun w' hw => ?_) ?_; rotate_left; (go_simp; try with_reducible rfl); try simp only [Act.put, List.setIfInBounds_toArray, List.set_cons_zero, List.set_cons_succ])
    refine wpHead_nil ?_
    refine wpSeqS_step rfl (fun K hK => ?_)
    refine wp_bytes_none bytT rfl ?_
    refine hK.out _ _ (cell_turned ((Turned.refl (fun _ => False) w).drew.alloc (.cells #[] 5)) d1 (fun e => e)) ?_
    clear hK K
    refine wpSeqS_step rfl (fun K hK => ?_)
    refine wp_append_bytes bytT (.tmp 53) (.tmp 54) rfl w.heap.size (.slice (some ⟨w.heap.size, 0, none⟩) 0 0) 0 [] zs rfl (own_none w.drew (Nat.le_refl _) _) ⟨g, 0, none⟩ 512 cap rfl hz.len (news_of_row (hrm.turned ((Turned.refl (fun _ => False) w).drew.alloc (.cells #[] 5)) (fun e => e))) (by omega) (by omega) (by simp) ?_
    intro g7 cap7 w3 hr7 hg7 hat7 hlt7
    have ht7 : Turned (fun _ => False) w w3 := ((Turned.refl (fun _ => False) w).drew.alloc (.cells #[] 5)).grown hg7 (fun k hk => by
      have e : w.heap.size = k := by simpa [Value.ownBlock] using hk
      exact .inr (Nat.le_of_eq e))
    refine hK.out _ _ (cell_turned ht7 d1 (fun e => e)) ?_
    clear hK K
    have hG3 := hGm.turned ht7 (fun e => e)
    have hB3 := hBm.turned ht7 (fun e => e)
    have e1 := hG3.cell (i := i) (c := 1) (by omega) (by omega)
    have e3 := hG3.cell (i := i) (c := 3) (by omega) (by omega)
    have hf3 := hG3.frozen
    have d3 : w3.cell? ⟨r, 1, none⟩ = some (.slice (some ⟨g5, 0, none⟩) (m) cap5) := hB3.cell 1
    refine wpSeqS_step rfl (fun K hK => ?_)
    go_simp
    first
    | refine hK.out _ _ d3 ?_
    | (rw [if_pos (by omega)]; refine hK.out _ _ d3 ?_)
    clear hK K
    refine wpSeqS_step rfl (fun K hK => ?_)
    go_simp
    refine hK.out _ _ d3 ?_
    clear hK K
    refine wpSeqS_step rfl (fun K hK => ?_)
    go_simp
    refine hK.out _ _ (cell_turned ((Turned.refl (· = g5) w3).setCell (p := ⟨g5, i * 4 + 1, none⟩) (.inl rfl) (.slice (some ⟨g7, 0, none⟩) 512 cap7)) d3 (fun e => hne5 e.symm)) ?_
    clear hK K
    refine wpSeqS_nil ?_
    have hG4 := hG3.putL (i := i) (by omega) (.slice (some ⟨g7, 0, none⟩) 512 cap7) zs
    have hB4 := hB3.far (p := ⟨g5, i * 4 + 1, none⟩) (fun e => hne5 e.symm) (.slice (some ⟨g7, 0, none⟩) 512 cap7)
    have ht4 := (ht7.mono (W' := (· = g5)) (fun _ e => e.elim)).setCell (p := ⟨g5, i * 4 + 1, none⟩) (.inl rfl) (.slice (some ⟨g7, 0, none⟩) 512 cap7)
    have hg7w : w.heap.size ≤ g7 := by
      have e2 : w.heap.size + 1 = (w.drew.alloc (.cells #[] 5)).heap.size := by simp
      rcases hat7 with e | e
      · have : w.heap.size = g7 := by simpa [Value.ownBlock] using e
        omega
      · omega
    have hne7 : g5 ≠ g7 := fun e => by
      obtain ⟨cs, hb⟩ := hG3.blk
      obtain ⟨cs', hb', _⟩ := hr7.row
      rw [e] at hb
      exact absurd (hb.inj hb').2 (by decide)
    have hr4 := hr7.turned ((Turned.refl (· = g5) w3).setCell (p := ⟨g5, i * 4 + 1, none⟩) (.inl rfl) (.slice (some ⟨g7, 0, none⟩) 512 cap7)) (fun e => hne7 e.symm)
    clear hG3 hB3 e1 e3 hf3 d3 ht7 hr7 hg7 hat7 hlt7 d1
    generalize w3.setCell ⟨g5, i * 4 + 1, none⟩ (.slice (some ⟨g7, 0, none⟩) 512 cap7) = w4 at *
    have e3 := hG4.cell (i := i) (c := 3) (by omega) (by omega)
    have hf4 := hG4.frozen
    have d4 : w4.cell? ⟨r, 1, none⟩ = some (.slice (some ⟨g5, 0, none⟩) (m) cap5) := hB4.cell 1
    go_wp2_with fail
    have hG5 := hG4.putO (i := i) (by omega)
    have hB5 := hB4.far (p := ⟨g5, i * 4 + 3, none⟩) (fun e => hne5 e.symm) (.bool true)
    have ht5 := ht4.setCell (p := ⟨g5, i * 4 + 3, none⟩) (.inl rfl) (.bool true)
    have hr5 := hr4.turned ((Turned.refl (· = g5) w4).setCell (p := ⟨g5, i * 4 + 3, none⟩) (.inl rfl) (.bool true)) (fun e => hne7 e.symm)
    clear hG4 hB4 ht4 hr4 e3 hf4 d4
    generalize w4.setCell ⟨g5, i * 4 + 3, none⟩ (.bool true) = w5 at *
    have hN5 := near_old (lv := .slice (some ⟨g5, 0, none⟩) m cap5) (n := 512) (cap := cap7) (zs := zs) (X := X) (m := m) (.inl rfl) hg7w him
    have hL5 : SecAt w5 (.slice (some ⟨g7, 0, none⟩) 512 cap7) zs := ⟨hz, g7, cap7, rfl, hr5⟩
    have hU5 : ∀ k cs, (k = r ∨ (Value.slice (some ⟨g5, 0, none⟩) m cap5).ownBlock = some k ∨ k = g5 ∧ k < w.heap.size) → ¬ Blk w k 5 cs := by
      rintro k cs (rfl | e | ⟨rfl, e⟩) hb
      · exact absurd (hb.inj h'.out.blk).2 (by decide)
      · obtain ⟨_, _, cs', e' | e'⟩ := hlvW k e
        · exact absurd (hb.inj e').2 (by decide)
        · exact absurd (hb.inj e').2 (by decide)
      · rcases hW5 _ rfl with ⟨_, _, cs', e' | e'⟩ | e'
        · exact absurd (hb.inj e').2 (by decide)
        · exact absurd (hb.inj e').2 (by decide)
        · omega
    have hT5' := hTm.trans (W := fun k => k = r ∨ (Value.slice (some ⟨g5, 0, none⟩) m cap5).ownBlock = some k ∨ k = g5 ∧ k < w.heap.size) ht5 (fun k e => e.elim .inl (fun e => .inr (.inl e))) (fun k e => by
      by_cases hk : k < w.heap.size
      · exact .inl (.inr (.inr ⟨e, hk⟩))
      · exact .inr (by omega))
    have hT5 : Turned (RefV base w r (.slice (some ⟨g5, 0, none⟩) m cap5)) w w5 := hT5'.mono (fun k e => by
      rcases e with rfl | e | ⟨e, _⟩
      · exact .inl (refV_r h'.out)
      · exact .inl (hlvW k e)
      · exact hW5 k e)
    have hI5 := h'.out.written_old him (.slice (some ⟨g7, 0, none⟩) 512 cap7) hB5 (hG5.congr (Y := fun t => if t = i then { X i with lv := .slice (some ⟨g7, 0, none⟩) 512 cap7, lat := zs, op := true } else X t) (fun t ht c hc => by
      by_cases e : t = i
      · simp only [e, if_true]
      · simp only [e, if_false])).rowS hL5 hT5' hU5
    rw [hk'.out] at hI5
    rcases Bool.eq_false_or_eq_true (tickD A.armed) with hb | hb
    all_goals
      have hb' := Lib.hid hb
      clear hb
      refine (rcrash_to hI5 hd'.out hb'.out rfl).mono ?_
      rintro e w6 ⟨rfl, hI6, ht6⟩
      go_wp2_with fail
      go_ret
      refine ⟨by rw [hb'.out]; rfl, ⟨_, _, _, hI6, hN5⟩, hT5.trans ht6 (fun _ e => e) (fun i e => .inl ?_)⟩
      rw [show i = r from e]
      exact refV_r h'.out
  · have hmk := make_sector
    have hno' := Lib.hid hno
    clear hno
    obtain ⟨xs, hown, hx⟩ := h'.out.row.own
    obtain ⟨iS, hi0, hz0, hz1, hz2⟩ := info_parts secinfo
    have HS := Lib.hid (And.intro hi0 (And.intro hz0 (And.intro hz1 hz2)))
    have hown' := Lib.hid hown
    have hx' := Lib.hid hx
    have hlv : ∀ k, lv.ownBlock = some k → base ≤ k ∧ k ≠ r := fun k hk => ⟨own_block_ge hown hk, fun e => by
      subst e
      rcases h'.out.row.openG with ⟨rfl, _⟩ | ⟨g', cap', rfl, hG⟩
      · cases hk
      · obtain ⟨cs, hb⟩ := hG.blk
        have : g' = k := by simpa [Value.ownBlock] using hk
        subst this
        exact absurd (hb.inj h'.out.blk).2 (by decide)⟩
    have hlv' := Lib.hid hlv
    clear hi0 hz0 hz1 hz2 hown hx hlv
    go_wp2_with fail
    have hfew := h'.out.few
    have hbs : base ≤ w.heap.size := by have := h'.out.rb; have := h'.out.blk.lt; omega
    have hn1 := Lib.hid (news4 (Blk.new_at (k := w.heap.size + 1) (w.drew.alloc (.cells (u8s noughts).toArray 5)) 96 #[.int .i64 k, .slice none 0 0, .slice (some ⟨w.heap.size, 0, none⟩) 512 512, .bool false] (by simp)))
    have hn2 := Lib.hid (show ∀ u ∈ [Value.int .i64 k, .slice none 0 0, .slice (some ⟨w.heap.size, 0, none⟩) 512 512, .bool false], u.oneCell' = true by intro u hu; simp at hu; rcases hu with rfl | rfl | rfl | rfl <;> rfl)
    have hn3 := Lib.hid (ownsRow_turned hown'.out (((Turned.refl (fun _ => False) w).drew.alloc (.cells (u8s noughts).toArray 5)).alloc (.cells #[.int .i64 k, .slice none 0 0, .slice (some ⟨w.heap.size, 0, none⟩) 512 512, .bool false] 96)) (fun _ e => e.elim))
    have hn4 := Lib.hid (show base ≤ ((w.drew.alloc (.cells (u8s noughts).toArray 5)).alloc (.cells #[.int .i64 k, .slice none 0 0, .slice (some ⟨w.heap.size, 0, none⟩) 512 512, .bool false] 96)).heap.size by simp; omega)
    have hn5 := Lib.hid ((h'.out.blk.drew.alloc (.cells (u8s noughts).toArray 5)).alloc (.cells #[.int .i64 k, .slice none 0 0, .slice (some ⟨w.heap.size, 0, none⟩) 512 512, .bool false] 96))
    have ha1 := cell_turned ((Turned.refl (fun _ => False) w).alloc (.cells (u8s noughts).toArray 5)) c1 (fun e => e)
    have ha2 := cell_turned (((Turned.refl (fun _ => False) w).alloc (.cells (u8s noughts).toArray 5)).alloc (.cells #[.int .i64 k, .slice none 0 0, .slice (some ⟨w.heap.size, 0, none⟩) 512 512, .bool false] 96)) c1 (fun e => e)
    go_region_law (refine step_append_own rfl (.tmp 34) (.tmp 38) 49 rfl base 96 iS (.agg #[.int .i64 0, .slice none 0 0, .slice none 0 0, .bool false]) 4 64 Tryz.underlying49 HS.out.1 HS.out.2.1 HS.out.2.2.1 HS.out.2.2.2 rfl (by omega) lv m xs rfl hn3.out ⟨w.heap.size + 1, 0, none⟩ 1 1 [.int .i64 k, .slice none 0 0, .slice (some ⟨w.heap.size, 0, none⟩) 512 512, .bool false] rfl rfl hn1.out hn2.out (by unfold maxLen; omega) (by omega) hn4.out ?_; intro v' w2 hown2 hg2 hat2; obtain ⟨g5, cap5, rfl⟩ := own_some hown2 (by omega); have hB2 := hn5.out.grown hg2 (fun e => (hlv'.out r e.symm).2 rfl); have d1 : w2.cell? ⟨r, 1, none⟩ = some lv := hB2.cell 1; have df := hB2.frozen)
    all_goals
      have hlen : xs.length = m * 4 := hown'.out.1
      have hRS : RowS w2 base (.slice (some ⟨g5, 0, none⟩) (m + 1) cap5) (m + 1) (fun t => if t = m then ⟨k, .slice none 0 0, .slice (some ⟨w.heap.size, 0, none⟩) 512 512, [], noughts, false⟩ else X t) := RowS.more hlen hx'.out ⟨k, .slice none 0 0, .slice (some ⟨w.heap.size, 0, none⟩) 512 512, [], noughts, false⟩ hown2
      obtain ⟨g6, cap6, e6, hG⟩ := hRS.openG.resolve_left (fun e => by cases e.1)
      obtain ⟨rfl, rfl⟩ : g5 = g6 ∧ cap5 = cap6 := by simpa using e6
      have hne5 : g5 ≠ r := by
        obtain ⟨cs, hb⟩ := hG.blk
        exact fun e => by subst e; exact absurd (hb.inj hB2).2 (by decide)
      have hBm : Blk (w2.setCell ⟨r, 1, none⟩ (.slice (some ⟨g5, 0, none⟩) (m + 1) cap5)) r 51 (rdCells A.n (.slice (some ⟨g5, 0, none⟩) (m + 1) cap5) A.armed A.down) := hB2.set_ 1 _
      have hGm := hG.turned ((Turned.refl (· = r) w2).setCell (p := ⟨r, 1, none⟩) (.inl rfl) (.slice (some ⟨g5, 0, none⟩) (m + 1) cap5)) hne5
      have hT2 : Turned (fun i => i = r ∨ lv.ownBlock = some i) w w2 := ((((Turned.refl _ w).drew.alloc (.cells (u8s noughts).toArray 5)).alloc (.cells #[.int .i64 k, .slice none 0 0, .slice (some ⟨w.heap.size, 0, none⟩) 512 512, .bool false] 96))).grown hg2 (fun k hk => .inl (.inr hk))
      have hTm := hT2.setCell (p := ⟨r, 1, none⟩) (.inl (.inl rfl)) (.slice (some ⟨g5, 0, none⟩) (m + 1) cap5)
      have hrm := (hr.turned hT2 (fun e => by
        obtain ⟨cs, hb⟩ := hr.opened
        rcases e with rfl | e
        · exact absurd (hb.inj h'.out.blk).2 (by decide)
        · rcases h'.out.row.openG with ⟨rfl, _⟩ | ⟨g', cap', rfl, hG'⟩
          · cases e
          · obtain ⟨cs', hb'⟩ := hG'.blk
            have : g' = g := by simpa [Value.ownBlock] using e
            subst this
            exact absurd (hb.inj hb').2 (by decide))).turned ((Turned.refl (· = r) w2).setCell (p := ⟨r, 1, none⟩) (.inl rfl) (.slice (some ⟨g5, 0, none⟩) (m + 1) cap5)) (fun e => by obtain rfl : g = r := e; obtain ⟨cs, hb⟩ := hr.opened; exact absurd (hb.inj h'.out.blk).2 (by decide))
      have hSm0 : Blk w2 w.heap.size 5 (u8s noughts).toArray := Blk.grown ((Blk.new w.drew 5 (u8s noughts).toArray).alloc (.cells #[.int .i64 k, .slice none 0 0, .slice (some ⟨w.heap.size, 0, none⟩) 512 512, .bool false] 96)) hg2 (fun e => by
        obtain ⟨_, _, cs, e' | e'⟩ := hlvW _ e.symm
        · have := e'.lt; omega
        · have := e'.lt; omega)
      have hSm := hSm0.far (p := ⟨r, 1, none⟩) (fun e => by have := h'.out.blk.lt; have : w.heap.size = r := e; omega) (.slice (some ⟨g5, 0, none⟩) (m + 1) cap5)
      have hW5 : ∀ i, i = g5 → RefV base w r lv i ∨ w.heap.size ≤ i := by
        intro i hi
        rw [hi]
        rcases hat2 with e | e
        · exact .inl (hlvW g5 (by rw [← e]; rfl))
        · right
          have : g5 = w.heap.size + 1 + 1 := by simpa [Value.ownBlock] using e
          omega
      have hwm := hTm.size
      have hO5 : (Value.slice (some ⟨g5, 0, none⟩) (m + 1) cap5).ownBlock = lv.ownBlock ∨ ∀ k, (Value.slice (some ⟨g5, 0, none⟩) (m + 1) cap5).ownBlock = some k → w.heap.size ≤ k := by
        rcases hat2 with e | e
        · exact .inl e
        · right
          intro k hk
          have h1 : g5 = w.heap.size + 1 + 1 := by simpa [Value.ownBlock] using e
          have h2 : g5 = k := by simpa [Value.ownBlock] using hk
          omega
      clear hSm0 hG hB2 hg2 hown2 hRS e6 hat2 ha1 ha2 d1 df hT2 hn1 hn2 hn3 hn4 hn5 hmk c0 c1 c2 c3 hf
      generalize hwm0 : w2.setCell ⟨r, 1, none⟩ (.slice (some ⟨g5, 0, none⟩) (m + 1) cap5) = wm at *
      clear hwm0
      have d1 : wm.cell? ⟨r, 1, none⟩ = some (.slice (some ⟨g5, 0, none⟩) (m + 1) cap5) := hBm.cell 1
      have hzm : ((m + 1 : Nat) : Int) = (m : Int) + 1 := by omega
      go_wp2_with fail
      -- THE REST IS PRINTED BY wip/gen_refe.py: new
      refine wp_region_order (fun w' => w'.cell? ⟨r, 1, none⟩ = some (.slice (some ⟨g5, 0, none⟩) (m + 1) cap5)) [0, 1, 2, 3, 4, 6] [5, 7, 8, 9, 10] mixed (by kernel_rfl) (fun _ _ _ _ _ h => h) d1 ?_
      simp only [pickOps, List.filterMap_cons, List.filterMap_nil, List.getElem?_cons_zero, List.getElem?_cons_succ]
      iterate 6 (refine wpHead_step (v := ?_) rfl (fun w' hw => ?_) ?_; rotate_left; (go_simp; try with_reducible rfl); try simp only [Act.put, List.setIfInBounds_toArray, List.set_cons_zero, List.set_cons_succ])
      refine wpHead_nil ?_
      refine wpSeqS_step rfl (fun K hK => ?_)
      refine wp_bytes_none bytT rfl ?_
      refine hK.out _ _ (cell_turned ((Turned.refl (fun _ => False) wm).drew.alloc (.cells #[] 5)) d1 (fun e => e)) ?_
      clear hK K
      refine wpSeqS_step rfl (fun K hK => ?_)
      refine wp_append_bytes bytT (.tmp 53) (.tmp 54) rfl wm.heap.size (.slice (some ⟨wm.heap.size, 0, none⟩) 0 0) 0 [] zs rfl (own_none wm.drew (Nat.le_refl _) _) ⟨g, 0, none⟩ 512 cap rfl hz.len (news_of_row (hrm.turned ((Turned.refl (fun _ => False) wm).drew.alloc (.cells #[] 5)) (fun e => e))) (by omega) (by omega) (by simp) ?_
      intro g7 cap7 w3 hr7 hg7 hat7 hlt7
      have ht7 : Turned (fun _ => False) wm w3 := ((Turned.refl (fun _ => False) wm).drew.alloc (.cells #[] 5)).grown hg7 (fun k hk => by
        have e : wm.heap.size = k := by simpa [Value.ownBlock] using hk
        exact .inr (Nat.le_of_eq e))
      refine hK.out _ _ (cell_turned ht7 d1 (fun e => e)) ?_
      clear hK K
      have hG3 := hGm.turned ht7 (fun e => e)
      have hB3 := hBm.turned ht7 (fun e => e)
      have e1 := hG3.cell (i := m) (c := 1) (by omega) (by omega)
      have e3 := hG3.cell (i := m) (c := 3) (by omega) (by omega)
      have hf3 := hG3.frozen
      have d3 : w3.cell? ⟨r, 1, none⟩ = some (.slice (some ⟨g5, 0, none⟩) (m + 1) cap5) := hB3.cell 1
      refine wpSeqS_step rfl (fun K hK => ?_)
      go_simp
      first
      | refine hK.out _ _ d3 ?_
      | (rw [if_pos (by omega)]; refine hK.out _ _ d3 ?_)
      clear hK K
      refine wpSeqS_step rfl (fun K hK => ?_)
      go_simp
      refine hK.out _ _ d3 ?_
      clear hK K
      refine wpSeqS_step rfl (fun K hK => ?_)
      go_simp
      refine hK.out _ _ (cell_turned ((Turned.refl (· = g5) w3).setCell (p := ⟨g5, m * 4 + 1, none⟩) (.inl rfl) (.slice (some ⟨g7, 0, none⟩) 512 cap7)) d3 (fun e => hne5 e.symm)) ?_
      clear hK K
      refine wpSeqS_nil ?_
      have hG4 := hG3.putL (i := m) (by omega) (.slice (some ⟨g7, 0, none⟩) 512 cap7) zs
      have hB4 := hB3.far (p := ⟨g5, m * 4 + 1, none⟩) (fun e => hne5 e.symm) (.slice (some ⟨g7, 0, none⟩) 512 cap7)
      have ht4 := (ht7.mono (W' := (· = g5)) (fun _ e => e.elim)).setCell (p := ⟨g5, m * 4 + 1, none⟩) (.inl rfl) (.slice (some ⟨g7, 0, none⟩) 512 cap7)
      have hg7w : w.heap.size ≤ g7 := by
        have e2 : wm.heap.size + 1 = (wm.drew.alloc (.cells #[] 5)).heap.size := by simp
        rcases hat7 with e | e
        · have : wm.heap.size = g7 := by simpa [Value.ownBlock] using e
          omega
        · omega
      have hne7 : g5 ≠ g7 := fun e => by
        obtain ⟨cs, hb⟩ := hG3.blk
        obtain ⟨cs', hb', _⟩ := hr7.row
        rw [e] at hb
        exact absurd (hb.inj hb').2 (by decide)
      have hr4 := hr7.turned ((Turned.refl (· = g5) w3).setCell (p := ⟨g5, m * 4 + 1, none⟩) (.inl rfl) (.slice (some ⟨g7, 0, none⟩) 512 cap7)) (fun e => hne7 e.symm)
      clear hG3 hB3 e1 e3 hf3 d3 ht7 hr7 hg7 hat7 hlt7 d1
      generalize w3.setCell ⟨g5, m * 4 + 1, none⟩ (.slice (some ⟨g7, 0, none⟩) 512 cap7) = w4 at *
      have e3 := hG4.cell (i := m) (c := 3) (by omega) (by omega)
      have hf4 := hG4.frozen
      have d4 : w4.cell? ⟨r, 1, none⟩ = some (.slice (some ⟨g5, 0, none⟩) (m + 1) cap5) := hB4.cell 1
      go_wp2_with fail
      have hG5 := hG4.putO (i := m) (by omega)
      have hB5 := hB4.far (p := ⟨g5, m * 4 + 3, none⟩) (fun e => hne5 e.symm) (.bool true)
      have ht5 := ht4.setCell (p := ⟨g5, m * 4 + 3, none⟩) (.inl rfl) (.bool true)
      have hr5 := hr4.turned ((Turned.refl (· = g5) w4).setCell (p := ⟨g5, m * 4 + 3, none⟩) (.inl rfl) (.bool true)) (fun e => hne7 e.symm)
      clear hG4 hB4 ht4 hr4 e3 hf4 d4
      generalize w4.setCell ⟨g5, m * 4 + 3, none⟩ (.bool true) = w5 at *
      have hN5 := near_new (k := k) (n := 512) (cap := cap7) (sn := 512) (sc := 512) (zs := zs) (ys := noughts) (X := X) (m := m) hO5 hg7w (Nat.le_refl _)
      have hL5 : SecAt w5 (.slice (some ⟨g7, 0, none⟩) 512 cap7) zs := ⟨hz, g7, cap7, rfl, hr5⟩
      have hU5 : ∀ k cs, (k = r ∨ lv.ownBlock = some k ∨ k = g5 ∧ k < w.heap.size) → ¬ Blk w k 5 cs := by
        rintro k cs (rfl | e | ⟨rfl, e⟩) hb
        · exact absurd (hb.inj h'.out.blk).2 (by decide)
        · obtain ⟨_, _, cs', e' | e'⟩ := hlvW k e
          · exact absurd (hb.inj e').2 (by decide)
          · exact absurd (hb.inj e').2 (by decide)
        · rcases hW5 _ rfl with ⟨_, _, cs', e' | e'⟩ | e'
          · exact absurd (hb.inj e').2 (by decide)
          · exact absurd (hb.inj e').2 (by decide)
          · omega
      have hT5' := hTm.trans (W := fun k => k = r ∨ lv.ownBlock = some k ∨ k = g5 ∧ k < w.heap.size) ht5 (fun k e => e.elim .inl (fun e => .inr (.inl e))) (fun k e => by
        by_cases hk : k < w.heap.size
        · exact .inl (.inr (.inr ⟨e, hk⟩))
        · exact .inr (by omega))
      have hT5 : Turned (RefV base w r lv) w w5 := hT5'.mono (fun k e => by
        rcases e with rfl | e | ⟨e, _⟩
        · exact .inl (refV_r h'.out)
        · exact .inl (hlvW k e)
        · exact hW5 k e)
      have hS5 := hSm.turned ht5 (fun e => by
        obtain ⟨cs, hb⟩ := hGm.blk
        rw [show w.heap.size = g5 from e] at hSm
        exact absurd (hSm.inj hb).2 (by decide))
      have hSe : SecAt w5 (.slice (some ⟨w.heap.size, 0, none⟩) 512 512) noughts := ⟨sec_noughts, _, _, rfl, ⟨sec_noughts.len, by omega, by unfold maxLen; omega, _, hS5, u8s_size sec_noughts.len, List.take_of_length_le (by rw [List.size_toArray.symm, u8s_size sec_noughts.len]; exact Nat.le_refl _)⟩⟩
      have hI5 := h'.out.written_new h0 h1 hno'.out (.slice (some ⟨g7, 0, none⟩) 512 cap7) (.slice (some ⟨w.heap.size, 0, none⟩) 512 512) hB5 (hG5.congr (Y := fun t => if t = m then ⟨k, .slice (some ⟨g7, 0, none⟩) 512 cap7, .slice (some ⟨w.heap.size, 0, none⟩) 512 512, zs, noughts, true⟩ else X t) (fun t ht c hc => by
        by_cases e : t = m
        · simp only [e, if_true]
        · simp only [e, if_false])).rowS hL5 hSe hT5' hU5
      rcases Bool.eq_false_or_eq_true (tickD A.armed) with hb | hb
      all_goals
        have hb' := Lib.hid hb
        clear hb
        refine (rcrash_to hI5 hd'.out hb'.out rfl).mono ?_
        rintro e w6 ⟨rfl, hI6, ht6⟩
        go_wp2_with fail
        go_ret
        refine ⟨by rw [hb'.out]; rfl, ⟨_, _, _, hI6, hN5⟩, hT5.trans ht6 (fun _ e => e) (fun i e => .inl ?_)⟩
        rw [show i = r from e]
        exact refV_r h'.out
end Go.Proofs.YtmblonmpiomjgaaGreat
