/-
  The document's disk: Read.
-/
import Derived.Test.YtmblonmpiomjgaaGreatRefA
namespace Go.Proofs.YtmblonmpiomjgaaGreat
open Go.RowKit Go.Maps

theorem RowB.opened {w : World} {U g n cap : Nat} {zs : List Int} (h : RowB w U g n cap zs) : ∃ cs, Blk w g U cs := let ⟨cs, hb, _⟩ := h.row; ⟨cs, hb⟩

section
variable {w : World} {base r m : Nat} {lv : Value} {A : DA} {X : Nat → RS} (h : IsRef w base r lv A m X) (k : Int)
include h
theorem rread_down (hd : A.down = true) : Calls Tryz.prog 29 #[.pointer (some ⟨r, 0, none⟩), .int .i64 k] w (RetSame (.tuple #[.slice none 0 0, .int .i64 8]) w) := by
  obtain ⟨c0, c1, c2, c3⟩ := ref_cells h
  rw [hd] at c3
  clear h hd
  go_enter Tryz.func29, Tryz.ntmps29
  go_wp2
  go_ret2
  exact ⟨rfl, rfl⟩
theorem rread_none (hd : A.down = false) (hk : k < 0 ∨ A.n ≤ k) : Calls Tryz.prog 29 #[.pointer (some ⟨r, 0, none⟩), .int .i64 k] w (RetSame (.tuple #[.slice none 0 0, .int .i64 6]) w) := by
  obtain ⟨c0, c1, c2, c3⟩ := ref_cells h
  rw [hd] at c3
  clear h hd
  by_cases hneg : k < 0
  · go_enter Tryz.func29, Tryz.ntmps29
    go_wp2
    go_ret2
    exact ⟨rfl, rfl⟩
  · have hge : A.n ≤ k := by omega
    clear hk
    go_enter Tryz.func29, Tryz.ntmps29
    go_wp2
    go_ret2
    exact ⟨rfl, rfl⟩
set_option maxRecDepth 100000 in
set_option maxHeartbeats 1000000 in
theorem rread_ok (hd : A.down = false) (h0 : 0 ≤ k) (h1 : k < A.n) : Calls Tryz.prog 29 #[.pointer (some ⟨r, 0, none⟩), .int .i64 k] w (ReadPost (A.lat k) w) := by
  obtain ⟨c0, c1, c2, c3⟩ := ref_cells h
  rw [hd] at c3
  have h' := Lib.hid h
  clear h hd
  obtain ⟨i0, hi0, hz0, hz1, hz2⟩ := info_parts u8info
  have HI := Lib.hid (And.intro hi0 (And.intro hz0 (And.intro hz1 hz2)))
  clear hi0 hz0 hz1 hz2
  go_enter Tryz.func29, Tryz.ntmps29
  go_wp2_with fail
  refine (rfind_any h'.out k).mono ?_
  rintro e w1 ⟨R, rfl, rfl, hR⟩
  rcases hR with ⟨i, him, rfl, hkey⟩ | ⟨rfl, hno⟩
  · obtain ⟨a, cap, hlv, hrow⟩ := h'.out.row.open_
    subst hlv
    obtain ⟨g, cs, rfl, hb, hB, hc⟩ := hrow (by omega)
    have him' : (i : Int) < (m : Int) := by omega
    have hlc := (hB.cell (i * 4 + 1)).trans (hc i him).2.1
    obtain ⟨⟨hs, g2, cap2, hlv2, hr2⟩, _⟩ := h'.out.byt i him
    rw [hlv2] at hlc
    have hlat : (X i).lat = A.lat k := by rw [← hkey]; exact (h'.out.has i him).1.symm
    rw [hlat] at hr2 hs
    have hr2' := Lib.hid hr2
    have hs' := Lib.hid hs
    clear hrow hB hc hlv2 hr2 hs hlat hkey
    go_wp2_with (first
      | (refine wpList_bytes_none bytT rfl rfl ?_; have ha1 := cell_turned ((Turned.refl (fun _ => False) w).alloc (.cells #[] 5)) c1 (fun e => e); have ha2 := cell_turned ((Turned.refl (fun _ => False) w).alloc (.cells #[] 5)) hlc (fun e => e))
      | (refine wpList_bytes_append bytT rfl (.tmp 27) (.tmp 35) rfl (.slice (some ⟨w.heap.size, 0, none⟩) 0 0) w.heap.size 0 [] (A.lat k) rfl (own_none w (Nat.le_refl _) _) ⟨g2, 0, none⟩ 512 cap2 rfl hs'.out.len (news_of_row (hr2'.out.turned ((Turned.refl (fun _ => False) _).alloc _) (fun e => e))) (by omega) (by omega) (by simp) ?_; intro g5 cap5 w3 hr5 hg5 hat hlt))
    go_ret2
    refine ⟨g5, cap5, rfl, hr5, ?_, ?_⟩
    · rcases hat with e | e
      · simp [Value.ownBlock] at e; omega
      · simp at e; omega
    · refine ((Turned.refl _ w).alloc _).grown hg5 ?_
      intro k e; simp [Value.ownBlock] at e; right; omega
  · have hn := (h'.out.none_ k h0 h1 hno).1
    have hn' := Lib.hid hn
    clear hn hno
    go_wp2_with (at_make; refine wpList_make_full _ rfl _ _ 37 rfl w.heap.size 5 i0 (.int .u8 0) 1 Tryz.underlying37 HI.out.1 HI.out.2.1 HI.out.2.2.1 .i64 .i64 512 512 512 rfl rfl rfl rfl (by rw [HI.out.2.2.2]; omega) (by unfold maxLen; omega) (Nat.le_refl _) ?_; intro w1 hown hg1)
    go_ret2
    rw [made_u8] at hown
    rw [hn'.out]
    exact ⟨w.heap.size, 512, rfl, RowB.of_own hown, Nat.le_refl _, (Turned.refl _ w).grown hg1 (by simp)⟩
end
end Go.Proofs.YtmblonmpiomjgaaGreat
