/- An argument that is a struct of whole numbers, or a slice of such structs, is opened to its numbers. For every program and every world. -/
import Derived.Lib.SmallJoins
import Derived.Deep.Fields
import Derived.Deep.Slices
import Derived.ChangeSame
namespace Go.Proofs.Ytobkncpmkiaggaa.Open
open Go.Joins Go.ChangeShapes Go.WideShapes Go.RowKit Go.Deep
theorem len1 {l : List Int} (h : l.length = 1) : ∃ a0 : Int, l = [a0] := by
  match l, h with
  | [a0], _ => exact ⟨a0, rfl⟩
theorem len2 {l : List Int} (h : l.length = 2) : ∃ a0 a1 : Int, l = [a0, a1] := by
  match l, h with
  | [a0, a1], _ => exact ⟨a0, a1, rfl⟩
theorem len3 {l : List Int} (h : l.length = 3) : ∃ a0 a1 a2 : Int, l = [a0, a1, a2] := by
  match l, h with
  | [a0, a1, a2], _ => exact ⟨a0, a1, a2, rfl⟩
theorem len4 {l : List Int} (h : l.length = 4) : ∃ a0 a1 a2 a3 : Int, l = [a0, a1, a2, a3] := by
  match l, h with
  | [a0, a1, a2, a3], _ => exact ⟨a0, a1, a2, a3, rfl⟩
theorem len5 {l : List Int} (h : l.length = 5) : ∃ a0 a1 a2 a3 a4 : Int, l = [a0, a1, a2, a3, a4] := by
  match l, h with
  | [a0, a1, a2, a3, a4], _ => exact ⟨a0, a1, a2, a3, a4, rfl⟩
theorem len6 {l : List Int} (h : l.length = 6) : ∃ a0 a1 a2 a3 a4 a5 : Int, l = [a0, a1, a2, a3, a4, a5] := by
  match l, h with
  | [a0, a1, a2, a3, a4, a5], _ => exact ⟨a0, a1, a2, a3, a4, a5, rfl⟩
section
variable {H : Type} {enc : TypeId × Value → H} {P : Program} {w : World} {base : Nat} {spare : Nat → Bool} {held : Bool}

theorem list_of_cells : ∀ (l : List Value), (∀ (j : Nat) (v : Value), l[j]? = some v → ∃ n : Int, v = .int .i64 n ∧ (Lit.int .i64 n).wf = true) →
    ∃ xs : List Int, l = xs.map (.int .i64) ∧ ∀ x ∈ xs, (Lit.int .i64 x).wf = true
  | [], _ => ⟨[], rfl, fun _ h => by cases h⟩
  | v :: l, h => by
    obtain ⟨n, rfl, hn⟩ := h 0 v rfl
    obtain ⟨xs, rfl, hx⟩ := list_of_cells l (fun j v hv => h (j + 1) v (by simpa using hv))
    refine ⟨n :: xs, rfl, fun x hm => ?_⟩
    rcases List.mem_cons.1 hm with rfl | hm
    · exact hn
    · exact hx x hm

theorem open_struct_ints {r : Reach} {b0 : Nat} {t ti : TypeId} {fs : Array Field} {v : Value} {d : DataW H} {p : List MemPlace} (hs : P.underlying t = some (.struct fs)) (hone : oneCellFields P fs = true)
    (hC : P.cellsOf t = fs.size) (hi : P.underlying ti = some (.int .i64)) (hty : fs.all (fun f => f.type == ti) = true)
    (hv : Value.okWide P w r b0 t v) (h : DataW.Trod enc P w base spare held t v d p) :
    ∃ xs : List Int, v = .agg (xs.map (.int .i64)).toArray ∧ xs.length = fs.size ∧ ∀ x ∈ xs, (Lit.int .i64 x).wf = true := by
  obtain ⟨cs, rfl, hsz⟩ := okWide_struct hs hv
  obtain ⟨fuel, hf⟩ := h
  obtain ⟨ys, n, _, _, _, hlen, hg⟩ := DataW.trod_struct hs hf
  have key : ∀ (j : Nat) (v : Value), cs.toList[j]? = some v → ∃ n : Int, v = .int .i64 n ∧ (Lit.int .i64 n).wf = true := by
    intro j v hj
    have hjl : j < fs.size := by
      have := (List.getElem?_eq_some_iff.1 hj).1
      simp only [Array.length_toList] at this
      omega
    have hfj : fs[j]? = some (fs[j]'hjl) := Array.getElem?_eq_getElem hjl
    obtain ⟨ho, hk⟩ := hone_of hone j _ hfj
    have h1 := hg j _ hfj
    have ht : (fs[j]'hjl).type = ti := by
      have := (Array.all_eq_true.1 hty) j hjl
      simpa using this
    rw [ho, hk, ht] at h1
    have hjc : j < cs.toList.length := (List.getElem?_eq_some_iff.1 hj).1
    have hd : (cs.toList.drop j).take 1 = [v] := by
      rw [List.drop_eq_getElem_cons hjc]
      have := (List.getElem?_eq_some_iff.1 hj).2
      rw [this]
      rfl
    have hcl : (Value.agg cs).cells.toList = cs.toList := rfl
    rw [hcl, hd] at h1
    have hy : ys[j]? = some (ys[j]'(by omega)) := List.getElem?_eq_getElem (by omega)
    obtain ⟨m, hm, _, hw⟩ := DataW.trod_int hi (h1.trans hy)
    exact ⟨m, by simpa using hm, hw⟩
  obtain ⟨xs, hx, hw⟩ := list_of_cells _ key
  refine ⟨xs, ?_, ?_, hw⟩
  · rw [← hx]
  · have := congrArg List.length hx
    simp only [Array.length_toList, List.length_map] at this
    omega
end
end Go.Proofs.Ytobkncpmkiaggaa.Open
