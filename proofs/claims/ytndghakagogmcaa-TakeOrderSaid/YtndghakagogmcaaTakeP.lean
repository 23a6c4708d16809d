/-
  The receiver, plainly: packets, the ring, what an arrival does. No program in sight.
-/
import Derived.Test.YtndghakagogmcaaMem
namespace Go.Proofs.Ytndghakagogmcaa
open Go.RowKit
namespace Take
/-- a packet, by its fields -/
structure Pk where
  slot : Int
  epoch : Int
  number : Nat
  kind : Int
  object : Int
  fence : Int
  num : Int
  x : Int
  y : Int
  clock : Int
  speed : Nat
def Pk.cells (p : Pk) : List Value := [.int .i64 p.slot, .int .u32 p.epoch, .int .u64 (p.number : Int), .int .u8 p.kind, .int .u32 p.object, .int .u32 p.fence, .int .u32 p.num, .int .i32 p.x, .int .i32 p.y, .int .u32 p.clock, .float .f64 p.speed]
def zpk : Pk := ⟨0, 0, 0, 0, 0, 0, 0, 0, 0, 0, 0⟩
def plc : Option Pk → List Value
  | none => .bool false :: zpk.cells
  | some p => .bool true :: p.cells
abbrev Ring := List (Option Pk)
def ring (rs : Ring) : List Value := rs.flatMap plc
def pks (l : List Pk) : List Value := l.flatMap Pk.cells
theorem plc_length : ∀ x, (plc x).length = 12
  | none => rfl
  | some _ => rfl
theorem cells_length (p : Pk) : p.cells.length = 11 := rfl
theorem cells_one (p : Pk) : ∀ u ∈ p.cells, u.oneCell' = true := by
  intro u hu
  simp [Pk.cells] at hu
  rcases hu with rfl | rfl | rfl | rfl | rfl | rfl | rfl | rfl | rfl | rfl | rfl <;> rfl
theorem plc_one (x : Option Pk) : (plc x).toArray.all (·.oneCell') = true := by
  refine all_oneCell_toArray ?_
  intro u hu
  cases x with
  | none =>
    rcases List.mem_cons.1 hu with rfl | h
    · rfl
    · exact cells_one _ u h
  | some p =>
    rcases List.mem_cons.1 hu with rfl | h
    · rfl
    · exact cells_one _ u h
theorem ring_length (rs : Ring) : (ring rs).length = rs.length * 12 := Mem.flat_length plc_length rs
/-- how many are kept -/
def full (rs : Ring) : Nat := (rs.filter Option.isSome).length
theorem full_le (rs : Ring) : full rs ≤ rs.length := List.length_filter_le _ _
theorem full_set_none : ∀ (rs : Ring) (i : Nat) (q : Pk), rs[i]? = some (some q) → full (rs.set i none) + 1 = full rs
  | [], i, q, h => by simp at h
  | x :: rs, 0, q, h => by simp at h; subst h; simp [full]
  | x :: rs, i + 1, q, h => by
    have := full_set_none rs i q (by simpa using h)
    unfold full at this ⊢
    cases x <;> simp at this ⊢ <;> omega
theorem full_set_some : ∀ (rs : Ring) (i : Nat) (q : Pk), rs[i]? = some none → full (rs.set i (some q)) = full rs + 1
  | [], i, q, h => by simp at h
  | x :: rs, 0, q, h => by simp at h; subst h; simp [full]
  | x :: rs, i + 1, q, h => by
    have := full_set_some rs i q (by simpa using h)
    unfold full at this ⊢
    cases x <;> simp at this ⊢ <;> omega
/-- release what is next, at most f times -/
def rel : Nat → Nat → Ring → List Pk × Nat × Ring
  | 0, nx, rs => ([], nx, rs)
  | f + 1, nx, rs => match rs[nx % rs.length]? with
    | some (some q) => let r := rel f (nx + 1) (rs.set (nx % rs.length) none); (q :: r.1, r.2.1, r.2.2)
    | _ => ([], nx, rs)
theorem rel_stop (f nx : Nat) (rs : Ring) (h : rs[nx % rs.length]? = some none) : rel f nx rs = ([], nx, rs) := by
  cases f with
  | zero => rfl
  | succ f => simp [rel, h]
theorem rel_go (f nx : Nat) (rs : Ring) (q : Pk) (h : rs[nx % rs.length]? = some (some q)) :
    rel (f + 1) nx rs = (q :: (rel f (nx + 1) (rs.set (nx % rs.length) none)).1, (rel f (nx + 1) (rs.set (nx % rs.length) none)).2) := by
  simp [rel, h]
def put (rs : Ring) (p : Pk) : Ring := match rs[p.number % rs.length]? with
  | some none => rs.set (p.number % rs.length) (some p)
  | _ => rs
theorem put_length (rs : Ring) (p : Pk) : (put rs p).length = rs.length := by unfold put; split <;> simp
/-- what an arrival does -/
def arr (nx : Nat) (rs : Ring) (p : Pk) : List Pk × Nat × Ring :=
  if nx ≤ p.number ∧ p.number < nx + rs.length then rel (full (put rs p)) nx (put rs p) else ([], nx, rs)
end Take
end Go.Proofs.Ytndghakagogmcaa
