/-
  The document's Copy.
-/
import Derived.Test.YtmblonmpiomjgaaGreatCpy
import Derived.Laws.AppendOwnNone
namespace Go.Proofs.YtmblonmpiomjgaaGreat
open Go.RowKit Go.Maps

theorem addr_add (g j : Nat) : (⟨g, 0, none⟩ : Addr).add j = ⟨g, j, none⟩ := by
  simp [Addr.add]
  omega
theorem own_shape {w : World} {b e size n : Nat} {v : Value} {xs : List Value} (h : w.ownsRow b e size v n xs) : ∃ vb vn vc, v = .slice vb vn vc := by
  rcases h.2 with ⟨rfl, _⟩ | ⟨g, cap, cur, rfl, _⟩
  · exact ⟨_, _, _, rfl⟩
  · exact ⟨_, _, _, rfl⟩
theorem own_less {w : World} {b b' e size n : Nat} {v : Value} {xs : List Value} (h : w.ownsRow b e size v n xs) (hb : b' ≤ b) : w.ownsRow b' e size v n xs :=
  ⟨h.1, h.2.imp id (fun ⟨g, cap, cur, hv, hg, r⟩ => ⟨g, cap, cur, hv, Nat.le_trans hb hg, r⟩)⟩
theorem rcopy_close {w w3 : World} {base r rr m : Nat} {lv lw v' : Value} {X : Nat → RS} {A : DA} (h : IsRef w base r lv A m X) (ht : Turned (fun _ => False) w w3) (hb : Blk w3 rr 51 (rdCells A.n lw A.armed A.down)) (hr : RowS w3 base v' m X) (hbr : base ≤ rr) :
    IsRef (w3.setCell ⟨rr, 1, none⟩ v') base rr v' A m X := by
  have hS : Turned (· = rr) w3 (w3.setCell ⟨rr, 1, none⟩ v') := (Turned.refl (· = rr) w3).setCell (.inl rfl) _
  have h3 := h.fresh ht
  exact { h3 with
    blk := hb.set_ 1 v'
    rb := hbr
    row := hr.turned hS (fun k cs e hk => by have e' : k = rr := e; subst e'; exact absurd (hk.inj hb).2 (by decide))
    byt := fun i hi => ⟨(h3.byt i hi).1.turned hS (fun k cs e hk => by have e' : k = rr := e; subst e'; exact absurd (hk.inj hb).2 (by decide)), (h3.byt i hi).2.turned hS (fun k cs e hk => by have e' : k = rr := e; subst e'; exact absurd (hk.inj hb).2 (by decide))⟩ }
theorem IsRef.news {w : World} {base r m g cap : Nat} {lv : Value} {A : DA} {X : Nat → RS} (h : IsRef w base r lv A m X) (hG : RowG w base g cap m X) :
    ∃ news : List Value, news.length = m * 4 ∧ (∀ (j : Nat) u, news[j]? = some u → w.cell? ((⟨g, 0, none⟩ : Addr).add j) = some u) ∧ (∀ u ∈ news, u.oneCell' = true) ∧ (∀ i, i < m → ∀ c, c < 4 → news[i * 4 + c]? = some ((X i).cell c)) := by
  obtain ⟨cs, hb, hs, hc⟩ := hG.row
  have hle := hG.le
  have hlen : (cs.toList.take (m * 4)).length = m * 4 := by simp [hs]; omega
  have key : ∀ i, i < m → ∀ c, c < 4 → (cs.toList.take (m * 4))[i * 4 + c]? = some ((X i).cell c) := fun i hi c hc4 => by
    rw [List.getElem?_take, if_pos (by omega)]
    simpa using hc i hi c hc4
  have sec1 : ∀ v zs, SecAt w v zs → v.oneCell' = true := fun v zs ⟨_, g, cap, e, _⟩ => by rw [e]; rfl
  refine ⟨cs.toList.take (m * 4), hlen, fun j u hj => ?_, fun u hu => ?_, key⟩
  · have hjl : j < m * 4 := by
      have := (List.getElem?_eq_some_iff.1 hj).1
      rwa [hlen] at this
    have e : (⟨g, 0, none⟩ : Addr).add j = ⟨g, j, none⟩ := addr_add g j
    rw [e, hb.cell, ← hj, List.getElem?_take, if_pos hjl]
    simp
  · obtain ⟨j, hjl, rfl⟩ := List.getElem_of_mem hu
    rw [hlen] at hjl
    have hk := key (j / 4) (by omega) (j % 4) (by omega)
    rw [show j / 4 * 4 + j % 4 = j by omega, List.getElem?_eq_getElem (by rw [hlen]; exact hjl)] at hk
    injection hk with hk
    rw [hk]
    unfold RS.cell
    have hby := h.byt (j / 4) (by omega)
    split
    · rfl
    · split
      · exact sec1 _ _ hby.1
      · split
        · exact sec1 _ _ hby.2
        · rfl

set_option maxRecDepth 100000 in
set_option maxHeartbeats 1000000 in
theorem rcopy_any {w : World} {base r m : Nat} {lv : Value} {X : Nat → RS} {A : DA} (h : IsRef w base r lv A m X) :
    Calls Tryz.prog 10 #[.pointer (some ⟨r, 0, none⟩)] w (RCopyPost base m X A w) := by
  obtain ⟨c0, c1, c2, c3⟩ := ref_cells h
  have hfew := h.few
  have ht2 : Turned (fun _ => False) w ((w.alloc (.cells #[.int .i64 A.n, lv, .int .i64 A.armed, .bool A.down] 51)).alloc (.cells #[] 96)) := ((Turned.refl (fun _ => False) w).alloc _).alloc _
  have hb2 : Blk ((w.alloc (.cells #[.int .i64 A.n, lv, .int .i64 A.armed, .bool A.down] 51)).alloc (.cells #[] 96)) w.heap.size 51 (rdCells A.n lv A.armed A.down) := (Blk.new w _ _).alloc _
  have hr2 : Blk ((w.alloc (.cells #[.int .i64 A.n, lv, .int .i64 A.armed, .bool A.down] 51)).alloc (.cells #[] 96)) (w.heap.size + 1) 96 #[] := Blk.new_at _ _ _ (by simp)
  have hbase : base ≤ w.heap.size := by have := h.rb; have := h.r_lt; omega
  have hown : ((w.alloc (.cells #[.int .i64 A.n, lv, .int .i64 A.armed, .bool A.down] 51)).alloc (.cells #[] 96)).ownsRow (w.heap.size + 1) 96 4 (.slice (some ⟨w.heap.size + 1, 0, none⟩) 0 0) 0 [] :=
    ⟨rfl, .inr ⟨w.heap.size + 1, 0, #[], rfl, Nat.le_refl _, hr2, Nat.le_refl _, by unfold maxLen; omega, rfl, rfl⟩⟩
  have c1' := cell_turned ht2 c1 (fun e => e)
  have hsz2 : ((w.alloc (.cells #[.int .i64 A.n, lv, .int .i64 A.armed, .bool A.down] 51)).alloc (.cells #[] 96)).heap.size = w.heap.size + 2 := by simp
  have hX := Lib.hid (And.intro hown (And.intro ht2 (And.intro hb2 hsz2)))
  obtain ⟨iS, hi0, hz0, hz1, hz2⟩ := info_parts secinfo
  have HI := Lib.hid (And.intro hi0 (And.intro hz0 (And.intro hz1 hz2)))
  clear hown ht2 hb2 hr2 hsz2 hi0 hz0 hz1 hz2
  rcases h.row.openG with ⟨rfl, rfl⟩ | ⟨g, cap, rfl, hG⟩
  · have h' := Lib.hid h
    clear h
    go_enter Tryz.func10, Tryz.ntmps10
    go_wp2_with (at_builtin; refine wpList_append_own_none rfl (.tmp 7) (.tmp 11) 49 rfl (w.heap.size + 1) 96 iS 4 Tryz.underlying49 HI.out.1 _ 0 [] rfl hX.out.1 rfl ?_)
    clear c0 c1 c2 c3 c1'
    go_ret
    refine ⟨w.heap.size, _, rfl, { h'.out.fresh (((Turned.refl (fun _ => False) w).alloc (.cells #[.int .i64 A.n, .slice (some ⟨w.heap.size + 1, 0, none⟩) 0 0, .int .i64 A.armed, .bool A.down] 51)).alloc (.cells #[] 96)) with
      blk := (Blk.new w _ _).alloc _
      rb := hbase
      row := ⟨[], ⟨rfl, .inr ⟨w.heap.size + 1, 0, #[], rfl, by omega, Blk.new_at _ _ _ (by simp), Nat.le_refl _, by unfold maxLen; omega, rfl, rfl⟩⟩, fun i hi => by omega⟩ }, ((Turned.refl (fun _ => False) w).alloc _).alloc _, Nat.le_refl _, fun k hk => by
        have : w.heap.size + 1 = k := by simpa [Value.ownBlock] using hk
        omega⟩
  · have h' := Lib.hid h
    obtain ⟨news, hn1, hn2, hn3, hn4⟩ := h.news hG
    have hn2' := Lib.hid (fun (j : Nat) u (hj : news[j]? = some u) => cell_turned hX.out.2.1 ((addr_add g j) ▸ hn2 j u hj) (fun e => e))
    have hN := Lib.hid (And.intro hn1 (And.intro hn3 hn4))
    clear h hn1 hn2 hn3 hn4
    go_enter Tryz.func10, Tryz.ntmps10
    go_wp2_with (at_builtin; go_loud (refine wpList_append_own _ rfl (.tmp 7) (.tmp 11) 49 rfl (w.heap.size + 1) 96 iS (.agg #[.int .i64 0, .slice none 0 0, .slice none 0 0, .bool false]) 4 64 Tryz.underlying49 HI.out.1 HI.out.2.1 HI.out.2.2.1 HI.out.2.2.2 rfl (by omega) _ 0 [] rfl hX.out.1 ⟨g, 0, none⟩ m cap news rfl hN.out.1 (fun j u hj => (addr_add g j).symm ▸ hn2'.out j u hj) hN.out.2.1 (by unfold maxLen; omega) (by omega) (by rw [hX.out.2.2.2]; omega) ?_; intro v' w3 hown3 hgr3 _; obtain ⟨vb, vn, vc, hv'⟩ := own_shape hown3; subst hv'; have hge := fun k (hk : (Value.slice vb vn vc).ownBlock = some k) => own_block_ge hown3 hk; have hgr3 : World.grownBy _ w3 (Value.slice (some ⟨w.heap.size + 1, 0, none⟩) 0 0).ownBlock := hgr3; have hb3 := blk_grown hX.out.2.2.1 (r := w.heap.size + 1) hgr3 (by omega); have z1 : w3.cell? ⟨w.heap.size, 1, none⟩ = some (.slice (some ⟨g, 0, none⟩) m cap) := hb3.cell 1; have hfz := hb3.frozen))
    go_ret
    have hrow : RowS w3 base (.slice vb vn vc) m X := by
      have ho := own_less hown3 (Nat.le_trans hbase (Nat.le_succ _))
      rw [Nat.zero_add, List.nil_append] at ho
      exact ⟨news, ho, fun i hi => ⟨hN.out.2.2 i hi 0 (by omega), hN.out.2.2 i hi 1 (by omega), hN.out.2.2 i hi 2 (by omega), hN.out.2.2 i hi 3 (by omega)⟩⟩
    have hk1 : ∀ k, (Value.slice (some ⟨w.heap.size + 1, 0, none⟩) 0 0).ownBlock = some k → w.heap.size ≤ k := fun k e => by
      have e' : w.heap.size + 1 = k := by simpa [Value.ownBlock] using e
      omega
    have ht3 : Turned (fun _ => False) w w3 := hX.out.2.1.grown hgr3 (fun k e => .inr (hk1 k e))
    exact ⟨w.heap.size, _, rfl, rcopy_close h'.out ht3 hb3 hrow hbase, ht3.setCell (.inr (Nat.le_refl _)) _, Nat.le_refl _, fun k hk => by have := hge k hk; omega⟩
end Go.Proofs.YtmblonmpiomjgaaGreat
