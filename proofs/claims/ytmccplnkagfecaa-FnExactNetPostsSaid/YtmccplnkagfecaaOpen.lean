/- An argument that is a struct of whole numbers, or a slice of such structs, is opened to its numbers. For every program and every world. -/
import Derived.Lib.SmallJoins
import Derived.Deep.Fields
import Derived.Deep.Slices
import Derived.ChangeSame
namespace Go.Proofs.Ytmccplnkagfecaa.Open
open Go.Joins Go.ChangeShapes Go.WideShapes Go.RowKit Go.Deep
theorem len1 {l : List Int} (h : l.length = 1) : ∃ a0 : Int, l = [a0] := by
  match l, h with
  | [a0], _ => exact ⟨a0, rfl⟩
theorem len2 {l : List Int} (h : l.length = 2) : ∃ a0 a1 : Int, l = [a0, a1] := by
  match l, h with
  | [a0, a1], _ => exact ⟨a0, a1, rfl⟩
theorem len3 {l : List Int} (h : l.length = 3) : ∃ a0 a1 a2 : Int, l = [a0, a1, a2] := by
  match l, h with
  | [a0, a1, a2], _ => exact ⟨a0, a1, a2, rfl⟩
theorem len4 {l : List Int} (h : l.length = 4) : ∃ a0 a1 a2 a3 : Int, l = [a0, a1, a2, a3] := by
  match l, h with
  | [a0, a1, a2, a3], _ => exact ⟨a0, a1, a2, a3, rfl⟩
theorem len5 {l : List Int} (h : l.length = 5) : ∃ a0 a1 a2 a3 a4 : Int, l = [a0, a1, a2, a3, a4] := by
  match l, h with
  | [a0, a1, a2, a3, a4], _ => exact ⟨a0, a1, a2, a3, a4, rfl⟩
theorem len6 {l : List Int} (h : l.length = 6) : ∃ a0 a1 a2 a3 a4 a5 : Int, l = [a0, a1, a2, a3, a4, a5] := by
  match l, h with
  | [a0, a1, a2, a3, a4, a5], _ => exact ⟨a0, a1, a2, a3, a4, a5, rfl⟩
section
variable {H : Type} {enc : TypeId × Value → H} {P : Program} {w : World} {base : Nat} {spare : Nat → Bool} {held : Bool}

theorem list_of_cells : ∀ (l : List Value), (∀ (j : Nat) (v : Value), l[j]? = some v → ∃ n : Int, v = .int .i64 n ∧ (Lit.int .i64 n).wf = true) →
    ∃ xs : List Int, l = xs.map (.int .i64) ∧ ∀ x ∈ xs, (Lit.int .i64 x).wf = true
  | [], _ => ⟨[], rfl, fun _ h => by cases h⟩
  | v :: l, h => by
    obtain ⟨n, rfl, hn⟩ := h 0 v rfl
    obtain ⟨xs, rfl, hx⟩ := list_of_cells l (fun j v hv => h (j + 1) v (by simpa using hv))
    refine ⟨n :: xs, rfl, fun x hm => ?_⟩
    rcases List.mem_cons.1 hm with rfl | hm
    · exact hn
    · exact hx x hm

theorem open_struct_ints {r : Reach} {b0 : Nat} {t ti : TypeId} {fs : Array Field} {v : Value} {d : DataW H} {p : List MemPlace} (hs : P.underlying t = some (.struct fs)) (hone : oneCellFields P fs = true)
    (hC : P.cellsOf t = fs.size) (hi : P.underlying ti = some (.int .i64)) (hty : fs.all (fun f => f.type == ti) = true)
    (hv : Value.okWide P w r b0 t v) (h : DataW.Trod enc P w base spare held t v d p) :
    ∃ xs : List Int, v = .agg (xs.map (.int .i64)).toArray ∧ xs.length = fs.size ∧ ∀ x ∈ xs, (Lit.int .i64 x).wf = true := by
  obtain ⟨cs, rfl, hsz⟩ := okWide_struct hs hv
  obtain ⟨fuel, hf⟩ := h
  obtain ⟨ys, n, _, _, _, hlen, hg⟩ := DataW.trod_struct hs hf
  have key : ∀ (j : Nat) (v : Value), cs.toList[j]? = some v → ∃ n : Int, v = .int .i64 n ∧ (Lit.int .i64 n).wf = true := by
    intro j v hj
    have hjl : j < fs.size := by
      have := (List.getElem?_eq_some_iff.1 hj).1
      simp only [Array.length_toList] at this
      omega
    have hfj : fs[j]? = some (fs[j]'hjl) := Array.getElem?_eq_getElem hjl
    obtain ⟨ho, hk⟩ := hone_of hone j _ hfj
    have h1 := hg j _ hfj
    have ht : (fs[j]'hjl).type = ti := by
      have := (Array.all_eq_true.1 hty) j hjl
      simpa using this
    rw [ho, hk, ht] at h1
    have hjc : j < cs.toList.length := (List.getElem?_eq_some_iff.1 hj).1
    have hd : (cs.toList.drop j).take 1 = [v] := by
      rw [List.drop_eq_getElem_cons hjc]
      have := (List.getElem?_eq_some_iff.1 hj).2
      rw [this]
      rfl
    have hcl : (Value.agg cs).cells.toList = cs.toList := rfl
    rw [hcl, hd] at h1
    have hy : ys[j]? = some (ys[j]'(by omega)) := List.getElem?_eq_getElem (by omega)
    obtain ⟨m, hm, _, hw⟩ := DataW.trod_int hi (h1.trans hy)
    exact ⟨m, by simpa using hm, hw⟩
  obtain ⟨xs, hx, hw⟩ := list_of_cells _ key
  refine ⟨xs, ?_, ?_, hw⟩
  · rw [← hx]
  · have := congrArg List.length hx
    simp only [Array.length_toList, List.length_map] at this
    omega

/-- A slice of such structs: its elements' numbers, element by element. -/
theorem open_slice_structs {t e ti : TypeId} {fs : Array Field} {a : Option Addr} {len cap : Nat} {d : DataW H} {p : List MemPlace} (ht : P.underlying t = some (.slice e)) (hs : P.underlying e = some (.struct fs)) (hone : oneCellFields P fs = true)
    (hC : P.cellsOf e = fs.size) (hi : P.underlying ti = some (.int .i64)) (hty : fs.all (fun f => f.type == ti) = true) (h : DataW.Trod enc P w base spare held t (.slice a len cap) d p) :
    ∃ zs : List (List Int), zs.length = len ∧ len ≤ cap ∧ cap ≤ maxLen ∧ (∀ z ∈ zs, z.length = fs.size ∧ ∀ x ∈ z, (Lit.int .i64 x).wf = true) ∧
      (0 < len → ∃ ad, a = some ad ∧ ∀ (j : Nat) (z : List Int), zs[j]? = some z → ∀ (i : Nat) (x : Int), z[i]? = some x → w.cell? (ad.add (j * fs.size + i)) = some (.int .i64 x)) := by
  obtain ⟨fuel, hf⟩ := h
  have hcl : (Value.slice a len cap).cells.toList = [.slice a len cap] := rfl
  rcases open_slice ht hf with ⟨hcs, _⟩ | ⟨x, l, c, m, n, D, Pl, hcs, _, hl, hm, hmm, _, hel⟩
  · rw [hcl] at hcs
    simp only [List.cons.injEq, Value.slice.injEq, and_true] at hcs
    obtain ⟨rfl, rfl, rfl⟩ := hcs
    exact ⟨[], rfl, Nat.le_refl _, Nat.zero_le _, (fun z hz => by cases hz), fun h0 => absurd h0 (Nat.lt_irrefl _)⟩
  · rw [hcl] at hcs
    simp only [List.cons.injEq, Value.slice.injEq, and_true] at hcs
    obtain ⟨rfl, rfl, rfl⟩ := hcs
    have hlm : len ≤ m := by
      rw [hmm]
      split
      · exact hl
      · exact Nat.le_refl _
    have each : ∀ i, i < len → ∃ z : List Int, (z.length = fs.size ∧ ∀ x ∈ z, (Lit.int .i64 x).wf = true) ∧ ∀ (j : Nat) (y : Int), z[j]? = some y → w.cell? (x.add (i * fs.size + j)) = some (.int .i64 y) := by
      intro i hlt
      obtain ⟨cs, hc, htr⟩ := hel i (Nat.lt_of_lt_of_le hlt hlm)
      rw [hC] at hc
      obtain ⟨_, hlen, hat⟩ := World.cells?_some hc
      obtain ⟨ys, n', _, _, _, hyl, hg⟩ := DataW.trod_struct hs htr
      have key : ∀ (j : Nat) (v : Value), cs[j]? = some v → ∃ n : Int, v = .int .i64 n ∧ (Lit.int .i64 n).wf = true := by
        intro j v hj
        have hjc : j < cs.length := (List.getElem?_eq_some_iff.1 hj).1
        have hjl : j < fs.size := by omega
        have hfj : fs[j]? = some (fs[j]'hjl) := Array.getElem?_eq_getElem hjl
        obtain ⟨ho, hk⟩ := hone_of hone j _ hfj
        have h1 := hg j _ hfj
        have ht : (fs[j]'hjl).type = ti := by
          have := (Array.all_eq_true.1 hty) j hjl
          simpa using this
        rw [ho, hk, ht] at h1
        have hd : (cs.drop j).take 1 = [v] := by
          rw [List.drop_eq_getElem_cons hjc]
          have := (List.getElem?_eq_some_iff.1 hj).2
          rw [this]
          rfl
        rw [hd] at h1
        have hy : ys[j]? = some (ys[j]'(by omega)) := List.getElem?_eq_getElem (by omega)
        obtain ⟨m, hm, _, hw⟩ := DataW.trod_int hi (h1.trans hy)
        exact ⟨m, by simpa using hm, hw⟩
      obtain ⟨z, hz, hw⟩ := list_of_cells _ key
      refine ⟨z, ⟨?_, hw⟩, fun j y hj => ?_⟩
      · have := congrArg List.length hz
        rw [List.length_map] at this
        omega
      · have hjl : j < z.length := (List.getElem?_eq_some_iff.1 hj).1
        have hzl : cs.length = z.length := by rw [hz, List.length_map]
        have h2 := hat j (by omega)
        rw [← Go.Deep.add_add, h2, hz, List.getElem?_map, hj]
        rfl
    have all : ∀ n, n ≤ len → ∃ zs : List (List Int), zs.length = n ∧ (∀ z ∈ zs, z.length = fs.size ∧ ∀ x ∈ z, (Lit.int .i64 x).wf = true) ∧
        ∀ (j : Nat) (z : List Int), zs[j]? = some z → ∀ (i : Nat) (y : Int), z[i]? = some y → w.cell? (x.add (j * fs.size + i)) = some (.int .i64 y) := by
      intro n
      induction n with
      | zero => exact fun _ => ⟨[], rfl, (fun z hz => by cases hz), (fun j z hj => by simp at hj)⟩
      | succ n ih =>
        intro hn
        obtain ⟨zs, h1, h2, h3⟩ := ih (Nat.le_of_succ_le hn)
        obtain ⟨z, hz1, hz2⟩ := each n hn
        refine ⟨zs ++ [z], by rw [List.length_append, h1, List.length_singleton], fun y hy => ?_, fun j y hj i v hv => ?_⟩
        · rcases List.mem_append.1 hy with hy | hy
          · exact h2 y hy
          · rw [List.mem_singleton.1 hy]
            exact hz1
        · by_cases hjn : j < n
          · rw [List.getElem?_append_left (by omega)] at hj
            exact h3 j y hj i v hv
          · have hje : j = n := by
              have := (List.getElem?_eq_some_iff.1 hj).1
              rw [List.length_append, List.length_singleton] at this
              omega
            subst hje
            rw [List.getElem?_append_right (by omega), h1, Nat.sub_self] at hj
            simp only [List.getElem?_cons_zero, Option.some.injEq] at hj
            subst hj
            exact hz2 i v hv
    obtain ⟨zs, h1, h2, h3⟩ := all len (Nat.le_refl _)
    exact ⟨zs, h1, hl, hm, h2, fun _ => ⟨x, rfl, h3⟩⟩
end
end Go.Proofs.Ytmccplnkagfecaa.Open
