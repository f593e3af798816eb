/- Small laws on worlds that our walks use: a cell written with what it holds; a cell written twice; a block that is known whole. No program. -/
import Derived.WalkKit
namespace Go.Proofs.Ytjbhhoajpahdlaa

theorem world_heap_eq {w w' : World} (h : w'.heap = w.heap) (h1 : w'.tape = w.tape) (h2 : w'.drawn = w.drawn) (h3 : w'.os = w.os) (h4 : w'.output = w.output) : w' = w := by
  cases w; cases w'; simp_all

def putIn (o : Nat) (v : Value) : Obj → Obj
  | .cells c elem frozen => .cells (c.setIfInBounds o v) elem frozen
  | x => x

theorem heap_setCell (w : World) (b o : Nat) (v : Value) (j : Nat) : (w.setCell ⟨b, o, none⟩ v).heap[j]? = if b = j then (w.heap[j]?).map (putIn o v) else w.heap[j]? := by
  unfold World.setCell
  simp only [Array.getElem?_modify]
  split
  · cases w.heap[j]? with
    | none => rfl
    | some x => cases x <;> rfl
  · rfl

theorem setCell_id {w : World} {b o : Nat} {v : Value} (h : w.cell? ⟨b, o, none⟩ = some v) : w.setCell ⟨b, o, none⟩ v = w := by
  refine world_heap_eq ?_ rfl rfl rfl rfl
  apply Array.ext_getElem?
  intro j
  rw [heap_setCell]
  split
  · rename_i hj
    subst hj
    unfold World.cell? at h
    cases hb : w.heap[b]? with
    | none => rfl
    | some x =>
      simp only [hb] at h
      cases x with
      | cells c e f =>
        simp only [Option.isSome_none, Bool.false_eq_true, if_false] at h
        simp only [Option.map_some, putIn, Option.some.injEq, Obj.cells.injEq, and_true]
        apply Array.ext_getElem?
        intro k
        by_cases hk : o = k
        · subst hk
          have hlt : o < c.size := (Array.getElem?_eq_some_iff.1 h).1
          rw [Array.getElem?_setIfInBounds_self_of_lt hlt, h]
        · rw [Array.getElem?_setIfInBounds_ne hk]
      | _ => simp at h
  · rfl

theorem setCell_twice (w : World) (b o : Nat) (v v' : Value) : (w.setCell ⟨b, o, none⟩ v).setCell ⟨b, o, none⟩ v' = w.setCell ⟨b, o, none⟩ v' := by
  refine world_heap_eq ?_ rfl rfl rfl rfl
  apply Array.ext_getElem?
  intro j
  simp only [heap_setCell]
  split
  · cases hb : w.heap[j]? with
    | none => rfl
    | some x =>
      cases x with
      | cells c e f =>
        simp only [Option.map_some, putIn, Option.some.injEq, Obj.cells.injEq, and_true]
        apply Array.ext_getElem?
        intro k
        by_cases hk : o = k
        · subst hk
          by_cases hlt : o < c.size <;> simp [hlt]
        · simp [Array.getElem?_setIfInBounds_ne hk]
      | _ => rfl
  · rfl

theorem cell_of_block {w : World} {b : Nat} {c : Array Value} {T : TypeId} {f : Nat × Nat} (h : w.heap[b]? = some (.cells c T f)) (o : Nat) : w.cell? ⟨b, o, none⟩ = c[o]? := by
  unfold World.cell?; simp [h]

theorem free_of_block {w : World} {b : Nat} {c : Array Value} {T : TypeId} (h : w.heap[b]? = some (.cells c T)) (o : Nat) : w.frozen? ⟨b, o, none⟩ = false := by
  unfold World.frozen?; simp [h]

theorem block_setCell {w : World} {b : Nat} {c : Array Value} {T : TypeId} {f : Nat × Nat} (h : w.heap[b]? = some (.cells c T f)) (o : Nat) (v : Value) : (w.setCell ⟨b, o, none⟩ v).heap[b]? = some (.cells (c.setIfInBounds o v) T f) := by
  rw [heap_setCell, if_pos rfl, h]; rfl

theorem block_setCell_ne {w : World} {b b' : Nat} (h : b ≠ b') (o : Nat) (v : Value) : (w.setCell ⟨b', o, none⟩ v).heap[b]? = w.heap[b]? := by
  rw [heap_setCell, if_neg (Ne.symm h)]

theorem block_alloc_lt {w : World} {b : Nat} (h : b < w.heap.size) (o : Obj) : (w.alloc o).heap[b]? = w.heap[b]? := by
  unfold World.alloc; simp [Array.getElem?_push, Nat.ne_of_lt h]

theorem block_alloc_new (w : World) (o : Obj) : (w.alloc o).heap[w.heap.size]? = some o := by
  unfold World.alloc; simp

theorem lt_of_block {w : World} {b : Nat} {o : Obj} (h : w.heap[b]? = some o) : b < w.heap.size := (Array.getElem?_eq_some_iff.1 h).1

end Go.Proofs.Ytjbhhoajpahdlaa
