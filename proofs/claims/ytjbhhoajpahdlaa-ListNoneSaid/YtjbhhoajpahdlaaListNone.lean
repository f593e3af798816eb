/- treadlelaw09.ListNone, for a call entered alone: true, whatever the input. -/
import Derived.Test.YtjbhhoajpahdlaaListWorks
namespace Go.Proofs.Ytjbhhoajpahdlaa
open Go.RowKit

set_option maxRecDepth 100000 in
set_option maxHeartbeats 3200000 in
theorem none_less (most v : Int) (w : World) (h : most < 0) : Calls Try.prog 3 #[.int .i64 most, .int .i64 v] w (Yes w) := by
  have HN := Lib.hid (list_new_not most w (.inl h))
  go_enter Try.func3, Try.ntmps3
  go_wp2_with fail
  refine HN.out.mono ?_
  rintro e w' ⟨rfl, rfl⟩
  have hbare : (w.alloc (.cells #[.pointer none, .pointer none, .slice none 0 0] 27)).cell? ⟨w.heap.size, 0 + 1, none⟩ = some (.pointer none) := by
    rw [cell_of_block (block_alloc_new _ _)]; rfl
  go_wp2_with fail
  refine (list_add_nil _ _).mono ?_
  rintro e w' ⟨rfl, rfl⟩
  go_wp2_with fail
  refine (list_add_bare _ _ _ hbare).mono ?_
  rintro e w' ⟨rfl, rfl⟩
  go_wp2_with fail
  refine (list_close_nil _).mono ?_
  rintro e w' ⟨rfl, rfl⟩
  go_wp2_with fail
  refine (list_close_bare _ _ hbare).mono ?_
  rintro e w' ⟨rfl, rfl⟩
  go_wp2_with fail
  refine (list_each_nil _).mono ?_
  rintro e w' ⟨rfl, rfl⟩
  go_wp2_with fail
  refine (list_each_bare _ _ hbare).mono ?_
  rintro e w' ⟨rfl, rfl⟩
  go_wp2_with fail
  refine (list_works _).mono ?_
  rintro e w' ⟨rfl, hb⟩
  have HB := Lib.hid hb
  clear hb
  go_wp2
  go_ret
  exact ⟨rfl, ((Below.refl _ _).alloc (Nat.le_refl _) _).trans (HB.out.mono (by simp))⟩

set_option maxRecDepth 100000 in
set_option maxHeartbeats 3200000 in
theorem none_more (most v : Int) (w : World) (h : 4096 < most) : Calls Try.prog 3 #[.int .i64 most, .int .i64 v] w (Yes w) := by
  have HN := Lib.hid (list_new_not most w (.inr h))
  have h0 : ¬ most < 0 := by omega
  go_enter Try.func3, Try.ntmps3
  go_wp2_with fail
  refine HN.out.mono ?_
  rintro e w' ⟨rfl, rfl⟩
  have hbare : (w.alloc (.cells #[.pointer none, .pointer none, .slice none 0 0] 27)).cell? ⟨w.heap.size, 0 + 1, none⟩ = some (.pointer none) := by
    rw [cell_of_block (block_alloc_new _ _)]; rfl
  go_wp2_with fail
  refine (list_add_nil _ _).mono ?_
  rintro e w' ⟨rfl, rfl⟩
  go_wp2_with fail
  refine (list_add_bare _ _ _ hbare).mono ?_
  rintro e w' ⟨rfl, rfl⟩
  go_wp2_with fail
  refine (list_close_nil _).mono ?_
  rintro e w' ⟨rfl, rfl⟩
  go_wp2_with fail
  refine (list_close_bare _ _ hbare).mono ?_
  rintro e w' ⟨rfl, rfl⟩
  go_wp2_with fail
  refine (list_each_nil _).mono ?_
  rintro e w' ⟨rfl, rfl⟩
  go_wp2_with fail
  refine (list_each_bare _ _ hbare).mono ?_
  rintro e w' ⟨rfl, rfl⟩
  go_wp2_with fail
  refine (list_works _).mono ?_
  rintro e w' ⟨rfl, hb⟩
  have HB := Lib.hid hb
  clear hb
  go_wp2
  go_ret
  exact ⟨rfl, ((Below.refl _ _).alloc (Nat.le_refl _) _).trans (HB.out.mono (by simp))⟩

set_option maxRecDepth 100000 in
set_option maxHeartbeats 3200000 in
theorem none_fits (most v : Int) (w : World) (h0 : 0 ≤ most) (h : most ≤ 4096) : Calls Try.prog 3 #[.int .i64 most, .int .i64 v] w (Yes w) := by
  have HN := Lib.hid (list_new most w h0 h)
  go_enter Try.func3, Try.ntmps3
  go_wp2_with fail
  refine HN.out.mono ?_
  rintro e w1 ⟨lb, L, H, pb, rfl, hB, _⟩
  have HB1 := Lib.hid hB
  clear hB
  have hbare : (w1.alloc (.cells #[.pointer none, .pointer none, .slice none 0 0] 27)).cell? ⟨w1.heap.size, 0 + 1, none⟩ = some (.pointer none) := by
    rw [cell_of_block (block_alloc_new _ _)]; rfl
  go_wp2_with fail
  refine (list_add_nil _ _).mono ?_
  rintro e w' ⟨rfl, rfl⟩
  go_wp2_with fail
  refine (list_add_bare _ _ _ hbare).mono ?_
  rintro e w' ⟨rfl, rfl⟩
  go_wp2_with fail
  refine (list_close_nil _).mono ?_
  rintro e w' ⟨rfl, rfl⟩
  go_wp2_with fail
  refine (list_close_bare _ _ hbare).mono ?_
  rintro e w' ⟨rfl, rfl⟩
  go_wp2_with fail
  refine (list_each_nil _).mono ?_
  rintro e w' ⟨rfl, rfl⟩
  go_wp2_with fail
  refine (list_each_bare _ _ hbare).mono ?_
  rintro e w' ⟨rfl, rfl⟩
  go_wp2_with fail
  refine (list_works _).mono ?_
  rintro e w' ⟨rfl, hb⟩
  have HB := Lib.hid hb
  clear hb
  go_wp2
  go_ret
  exact ⟨rfl, (HB1.out.alloc HB1.out.size _).trans (HB.out.mono (by have := HB1.out.size; simp; omega))⟩

theorem none_any (most v : Int) (w : World) : Calls Try.prog 3 #[.int .i64 most, .int .i64 v] w (Yes w) := by
  by_cases h1 : most < 0
  · exact none_less most v w h1
  · by_cases h2 : 4096 < most
    · exact none_more most v w h2
    · exact none_fits most v w (by omega) (by omega)
end Go.Proofs.Ytjbhhoajpahdlaa
