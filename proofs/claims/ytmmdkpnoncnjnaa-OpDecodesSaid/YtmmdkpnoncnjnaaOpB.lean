/- Contracts of the small functions of package op: shapes, calls. -/
import Derived.Test.YtmmdkpnoncnjnaaOpA
import Derived.Test.YtmmdkpnoncnjnaaOpTab
namespace Go.Proofs.Ytmmdkpnoncnjnaa
open Go.RowKit

theorem build_shapes (w : World) : (Instr.buildSlice 62 46 #[(0, Value.agg #[Value.string ⟨#[110, 111, 112]⟩, .int .i64 0, .int .i64 0, .int .i64 0]),
    (1, Value.agg #[Value.string ⟨#[104, 97, 108, 116]⟩, .int .i64 0, .int .i64 1, .int .i64 0]),
    (2, Value.agg #[Value.string ⟨#[97, 98, 111, 114, 116]⟩, .int .i64 0, .int .i64 1, .int .i64 0]),
    (3, Value.agg #[Value.string ⟨#[110, 117, 109]⟩, .int .i64 1, .int .i64 0, .int .i64 1]),
    (4, Value.agg #[Value.string ⟨#[112, 111, 112]⟩, .int .i64 0, .int .i64 1, .int .i64 0]),
    (5, Value.agg #[Value.string ⟨#[99, 111, 112, 121]⟩, .int .i64 6, .int .i64 0, .int .i64 1]),
    (6, Value.agg #[Value.string ⟨#[115, 119, 97, 112]⟩, .int .i64 0, .int .i64 2, .int .i64 2]),
    (7, Value.agg #[Value.string ⟨#[103, 101, 116]⟩, .int .i64 2, .int .i64 0, .int .i64 1]),
    (8, Value.agg #[Value.string ⟨#[115, 101, 116]⟩, .int .i64 2, .int .i64 1, .int .i64 0]),
    (9, Value.agg #[Value.string ⟨#[108, 111, 97, 100]⟩, .int .i64 0, .int .i64 1, .int .i64 1]),
    (10, Value.agg #[Value.string ⟨#[115, 116, 111, 114, 101]⟩, .int .i64 0, .int .i64 2, .int .i64 0]),
    (11, Value.agg #[Value.string ⟨#[108, 111, 97, 100, 56]⟩, .int .i64 0, .int .i64 1, .int .i64 1]),
    (12, Value.agg #[Value.string ⟨#[115, 116, 111, 114, 101, 56]⟩, .int .i64 0, .int .i64 2, .int .i64 0]),
    (13, Value.agg #[Value.string ⟨#[115, 105, 122, 101]⟩, .int .i64 0, .int .i64 0, .int .i64 1]),
    (14, Value.agg #[Value.string ⟨#[106, 117, 109, 112]⟩, .int .i64 3, .int .i64 0, .int .i64 0]),
    (15, Value.agg #[Value.string ⟨#[122, 101, 114, 111]⟩, .int .i64 3, .int .i64 1, .int .i64 0]),
    (16, Value.agg #[Value.string ⟨#[110, 111, 116, 122, 101, 114, 111]⟩, .int .i64 3, .int .i64 1, .int .i64 0]),
    (17, Value.agg #[Value.string ⟨#[99, 97, 108, 108]⟩, .int .i64 4, .int .i64 (-1), .int .i64 (-1)]),
    (18, Value.agg #[Value.string ⟨#[114, 101, 116]⟩, .int .i64 0, .int .i64 (-1), .int .i64 0]),
    (19, Value.agg #[Value.string ⟨#[115, 121, 115]⟩, .int .i64 5, .int .i64 (-1), .int .i64 1]),
    (20, Value.agg #[Value.string ⟨#[97, 100, 100]⟩, .int .i64 0, .int .i64 2, .int .i64 1]),
    (21, Value.agg #[Value.string ⟨#[115, 117, 98]⟩, .int .i64 0, .int .i64 2, .int .i64 1]),
    (22, Value.agg #[Value.string ⟨#[109, 117, 108]⟩, .int .i64 0, .int .i64 2, .int .i64 1]),
    (23, Value.agg #[Value.string ⟨#[100, 105, 118]⟩, .int .i64 0, .int .i64 2, .int .i64 1]),
    (24, Value.agg #[Value.string ⟨#[114, 101, 109]⟩, .int .i64 0, .int .i64 2, .int .i64 1]),
    (25, Value.agg #[Value.string ⟨#[97, 110, 100]⟩, .int .i64 0, .int .i64 2, .int .i64 1]),
    (26, Value.agg #[Value.string ⟨#[111, 114]⟩, .int .i64 0, .int .i64 2, .int .i64 1]),
    (27, Value.agg #[Value.string ⟨#[120, 111, 114]⟩, .int .i64 0, .int .i64 2, .int .i64 1]),
    (28, Value.agg #[Value.string ⟨#[115, 104, 108]⟩, .int .i64 0, .int .i64 2, .int .i64 1]),
    (29, Value.agg #[Value.string ⟨#[115, 104, 114]⟩, .int .i64 0, .int .i64 2, .int .i64 1]),
    (30, Value.agg #[Value.string ⟨#[117, 115, 104, 114]⟩, .int .i64 0, .int .i64 2, .int .i64 1]),
    (31, Value.agg #[Value.string ⟨#[101, 113]⟩, .int .i64 0, .int .i64 2, .int .i64 1]),
    (32, Value.agg #[Value.string ⟨#[108, 116]⟩, .int .i64 0, .int .i64 2, .int .i64 1]),
    (33, Value.agg #[Value.string ⟨#[117, 108, 116]⟩, .int .i64 0, .int .i64 2, .int .i64 1]),
    (34, Value.agg #[Value.string ⟨#[110, 101, 103]⟩, .int .i64 0, .int .i64 1, .int .i64 1]),
    (35, Value.agg #[Value.string ⟨#[110, 111, 116]⟩, .int .i64 0, .int .i64 1, .int .i64 1]),
    (36, Value.agg #[Value.string ⟨#[102, 97, 100, 100]⟩, .int .i64 0, .int .i64 2, .int .i64 1]),
    (37, Value.agg #[Value.string ⟨#[102, 115, 117, 98]⟩, .int .i64 0, .int .i64 2, .int .i64 1]),
    (38, Value.agg #[Value.string ⟨#[102, 109, 117, 108]⟩, .int .i64 0, .int .i64 2, .int .i64 1]),
    (39, Value.agg #[Value.string ⟨#[102, 100, 105, 118]⟩, .int .i64 0, .int .i64 2, .int .i64 1]),
    (40, Value.agg #[Value.string ⟨#[102, 101, 113]⟩, .int .i64 0, .int .i64 2, .int .i64 1]),
    (41, Value.agg #[Value.string ⟨#[102, 108, 116]⟩, .int .i64 0, .int .i64 2, .int .i64 1]),
    (42, Value.agg #[Value.string ⟨#[102, 110, 101, 103]⟩, .int .i64 0, .int .i64 1, .int .i64 1]),
    (43, Value.agg #[Value.string ⟨#[102, 114, 111, 111, 116]⟩, .int .i64 0, .int .i64 1, .int .i64 1]),
    (44, Value.agg #[Value.string ⟨#[116, 111, 102]⟩, .int .i64 0, .int .i64 1, .int .i64 1]),
    (45, Value.agg #[Value.string ⟨#[116, 111, 105]⟩, .int .i64 0, .int .i64 1, .int .i64 1])]).run Try.prog w
    = .ok (.slice (some ⟨w.heap.size, 0, none⟩) 46 46) (w.alloc (.cells (tabCells shapeTab).toArray 23)) := by kernel_rfl

theorem build_calls (w : World) : (Instr.buildSlice 62 5 #[(0, Value.agg #[Value.string ⟨#[111, 112, 101, 110]⟩, .int .i64 0, .int .i64 3, .int .i64 1]),
    (1, Value.agg #[Value.string ⟨#[114, 101, 97, 100]⟩, .int .i64 0, .int .i64 3, .int .i64 1]),
    (2, Value.agg #[Value.string ⟨#[119, 114, 105, 116, 101]⟩, .int .i64 0, .int .i64 3, .int .i64 1]),
    (3, Value.agg #[Value.string ⟨#[108, 105, 115, 116]⟩, .int .i64 0, .int .i64 4, .int .i64 1]),
    (4, Value.agg #[Value.string ⟨#[99, 108, 111, 115, 101]⟩, .int .i64 0, .int .i64 1, .int .i64 1])]).run Try.prog w
    = .ok (.slice (some ⟨w.heap.size, 0, none⟩) 5 5) (w.alloc (.cells (tabCells callTab).toArray 23)) := by kernel_rfl

theorem calls_any (w : World) :
    Calls Try.prog 36 #[] w fun e w' => ∃ g, e = .returned (.slice (some ⟨g, 0, none⟩) 5 5) ∧ w.heap.size ≤ g ∧ w'.heap[g]? = some (.cells (tabCells callTab).toArray 23) ∧ Below w.heap.size w w' := by
  have hbs := build_calls
  go_enter Try.func36, Try.ntmps36
  go_wp2
  go_ret
  exact ⟨_, rfl, Nat.le_refl _, heap_alloc_new _ _, (Below.refl _ _).alloc (Nat.le_refl _) _⟩

set_option maxHeartbeats 4000000 in
set_option maxRecDepth 100000 in
theorem shapes_any (w : World) :
    Calls Try.prog 34 #[] w fun e w' => ∃ g, e = .returned (.slice (some ⟨g, 0, none⟩) 46 46) ∧ w.heap.size ≤ g ∧ w'.heap[g]? = some (.cells (tabCells shapeTab).toArray 23) ∧ Below w.heap.size w w' := by
  have hB := Below.refl w.heap.size w
  go_enter Try.func34, Try.ntmps34
  go_wp2_with (first
   | (go_at_call 52; refine (two_any _ _).mono ?_; rintro e w' ⟨rfl, hb⟩; replace hB := hB.trans (hb.mono hB.size); clear hb)
   | (go_at_call 53; refine (one_any _ _).mono ?_; rintro e w' ⟨rfl, hb⟩; replace hB := hB.trans (hb.mono hB.size); clear hb))
  refine wp_of_run (v := .slice (some ⟨w'.heap.size, 0, none⟩) 46 46) (w' := World.alloc w' (.cells (tabCells shapeTab).toArray 23)) (by kernel_rfl) ?_
  simp only [Act.put, List.setIfInBounds_toArray, List.set_cons_succ, List.set_cons_zero]
  go_wp2
  go_ret
  exact ⟨_, rfl, hB.size, heap_alloc_new _ _, hB.alloc hB.size _⟩
end Go.Proofs.Ytmmdkpnoncnjnaa
