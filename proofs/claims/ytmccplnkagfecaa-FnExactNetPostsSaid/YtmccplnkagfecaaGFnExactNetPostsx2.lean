/- The functions that FnExactNetPosts reaches, each with a proof that the call does what it says; a part of that statement's proof. Conditions: none. -/
import Derived.Test.YtmccplnkagfecaaGFnExactNetPostsx0
import Derived.Test.YtmccplnkagfecaaGFnExactNetPostsx1
namespace Go.Proofs.Ytmccplnkagfecaa.PFnExactNetPosts
open Go.RowKit Go.Proofs.YtmccplnkagfecaaW.PrintWords Go.Proofs.YtmccplnkagfecaaW.PrintLast Go.Proofs.YtmccplnkagfecaaW.PrintMore
attribute [local go_sem] max2_int min2_int max_two min_two max_three min_three max_four min_four   -- for this text's walks alone
set_option linter.unusedVariables false
set_option linter.unusedSimpArgs false

/-! ### impl_amountValid: function 34 -/
def impl_amountValid.f (a0 : Int) : Option (Bool) := (impl_within.f a0 (-1000000000) 1000000000).bind fun t123 => (some t123)
set_option maxHeartbeats 8000000 in
set_option maxRecDepth 100000 in
theorem impl_amountValid.calls (a0 : Int) (r : Bool) (w : World) (h : impl_amountValid.f a0 = some r) :
    Calls Try.prog 34 #[.int .i64 a0] w fun e w' => e = .returned (.bool r) ∧ Drawn0 w w' := by
  have H : ((impl_within.f a0 (-1000000000) 1000000000).bind fun t123 => (some t123)) = some r := h
  clear h
  replace H := Option.bind_eq_some_iff.mp H
  obtain ⟨t123, A20, H⟩ := H
  replace H : (some t123) = some r := H
  have A2 := Aside0.mk A20
  clear A20
  obtain rfl := Option.some.inj H
  go_enter Try.func34, Try.ntmps34
  go_wp2_with (first | ((with_reducible refine gate_callee (f := 28) rfl ?_); refine goesL_ (some 4) rfl rfl Try.func28 (by kernel_rfl) rfl #[.int .i64 a0, .int .i64 (-1000000000), .int .i64 1000000000] rfl (by (try simp only [List.map_toArray, List.map_cons, List.map_nil]); first | done | rfl | (simp only [List.length_drop, List.length_take]; rfl)) ?_; (with_reducible refine (impl_within.calls a0 (-1000000000) 1000000000 t123 _ A2.out).mono ?_); rintro e w' ⟨rfl, ⟨nd, rfl⟩⟩; refine ⟨_, rfl, ?_⟩))
  go_ret
  exact ⟨by first | rfl | (simp; done) | (simp [*]; done), by repeat (first | exact Drawn0.refl _ | apply Drawn0.step)⟩

/-- A state of type 27 at block g of W; what its slices lead to came in by w0. -/
def IsS27 (w0 W : World) (g : Nat) (f0 : Int) (f1 : Int) (f2 : Int) : Prop := W.heap[g]? = some (.cells #[.int .i64 f0, .int .i64 f1, .int .i64 f2] 27 (0, 0)) ∧ w0.heap.size ≤ g
theorem IsS27.grown {w0 W : World} {g : Nat} {f0 : Int} {f1 : Int} {f2 : Int} {W1 : World} {row : Option Nat} (h : IsS27 w0 W g f0 f1 f2) (hw : W.grownBy W1 row) (hne : some g ≠ row) : IsS27 w0 W1 g f0 f1 f2 := by
  obtain ⟨hb, hg⟩ := h
  exact ⟨blk_grown hb hw hne, hg⟩
theorem IsS27.own_neN {w0 W : World} {g : Nat} {f0 : Int} {f1 : Int} {f2 : Int} {α : Type} {d : Kd α} {e : Nat} {base : Nat} {ok : Nat → Prop} {v : Value} {xs : List α} (h : IsS27 w0 W g f0 f1 f2) (ho : Kd.N d e W base ok v xs) (ht : e ≠ 27) : some g ≠ v.ownBlock := by
  obtain ⟨hb, hg⟩ := h
  exact Kd.N_ne ho hb ht
theorem IsS27.fresh {w0 W : World} {g : Nat} {f0 : Int} {f1 : Int} {f2 : Int} (h : IsS27 w0 W g f0 f1 f2) : ∀ k, W.heap.size ≤ k → k ≠ g := by
  obtain ⟨hb, hg⟩ := h
  exact Kd.freshB hb
theorem IsS27.kept {w0 W : World} {g : Nat} {f0 : Int} {f1 : Int} {f2 : Int} {W1 : World} {S : Nat → Prop} (h : IsS27 w0 W g f0 f1 f2) (hk : Kept W W1 S) (hne : ¬ S g) : IsS27 w0 W1 g f0 f1 f2 := by
  obtain ⟨hb, hg⟩ := h
  exact ⟨blk_kept hb hk hne, hg⟩
theorem IsS27.below {w0 W : World} {g : Nat} {f0 : Int} {f1 : Int} {f2 : Int} {W1 : World} (h : IsS27 w0 W g f0 f1 f2) (hw : Below W.heap.size W W1) : IsS27 w0 W1 g f0 f1 f2 := h.grown (grown_of_below hw none) (by simp)
theorem IsS27.alloc {w0 W : World} {g : Nat} {f0 : Int} {f1 : Int} {f2 : Int} (h : IsS27 w0 W g f0 f1 f2) (o : Obj) : IsS27 w0 (W.alloc o) g f0 f1 f2 := h.below (below_alloc (Below.refl _ _) o)
theorem IsS27.drewN {w0 W : World} {g : Nat} {f0 : Int} {f1 : Int} {f2 : Int} (h : IsS27 w0 W g f0 f1 f2) (m : Nat) : IsS27 w0 (W.drewN m) g f0 f1 f2 := h
theorem IsS27.drew {w0 W : World} {g : Nat} {f0 : Int} {f1 : Int} {f2 : Int} (h : IsS27 w0 W g f0 f1 f2) : IsS27 w0 W.drew g f0 f1 f2 := h
theorem IsS27.at_ {w0 W : World} {g : Nat} {f0 : Int} {f1 : Int} {f2 : Int} {w' : World} {m : Nat} (hq : W.drewN m = w') (h : IsS27 w0 W g f0 f1 f2) : IsS27 w0 w' g f0 f1 f2 := by subst hq; exact IsS27.drewN h m
theorem IsS27.apart {w0 W : World} {g : Nat} {f0 : Int} {f1 : Int} {f2 : Int} {α : Type} {d : Kd α} {e : Nat} {base : Nat} {ok : Nat → Prop} {v : Value} {xs : List α} (h : IsS27 w0 W g f0 f1 f2) (ho : d.R e W base ok v xs) (ht : ∀ q, q ∈ e :: d.E → q ≠ 27) : d.R e W base (fun k => ok k ∧ k ≠ g) v xs := by
  obtain ⟨hb, hg⟩ := h
  exact Kd.R_types ho hb ht
theorem IsS27.own_ne {w0 W : World} {g : Nat} {f0 : Int} {f1 : Int} {f2 : Int} {α : Type} {d : Kd α} {e : Nat} {base : Nat} {ok : Nat → Prop} {v : Value} {xs : List α} (h : IsS27 w0 W g f0 f1 f2) (ho : d.R e W base ok v xs) (ht : e ≠ 27) : some g ≠ v.ownBlock := by
  obtain ⟨hb, hg⟩ := h
  exact Kd.R_ne ho hb ht
theorem IsS27.apartQ {w0 W : World} {g : Nat} {f0 : Int} {f1 : Int} {f2 : Int} {α : Type} {d : Kd α} {e : Nat} {base : Nat} {ok : Nat → Prop} {v : Value} {xs : List α} (h : IsS27 w0 W g f0 f1 f2) (ho : d.Q e W base ok v xs) (ht : ∀ q, q ∈ e :: d.E → q ≠ 27) : d.Q e W base (fun k => ok k ∧ k ≠ g) v xs := by
  obtain ⟨hb, hg⟩ := h
  exact Kd.Q_types ho hb ht
theorem IsS27.own_neQ {w0 W : World} {g : Nat} {f0 : Int} {f1 : Int} {f2 : Int} {α : Type} {d : Kd α} {e : Nat} {base : Nat} {ok : Nat → Prop} {v : Value} {xs : List α} (h : IsS27 w0 W g f0 f1 f2) (ho : d.Q e W base ok v xs) (ht : e ≠ 27) : some g ≠ v.ownBlock := by
  obtain ⟨hb, hg⟩ := h
  exact Kd.Q_ne ho hb ht
theorem IsS27.apartS {w0 W : World} {g : Nat} {f0 : Int} {f1 : Int} {f2 : Int} {α : Type} {d : Kd α} {e : Nat} {base : Nat} {ok : Nat → Prop} {v : Value} {xs : List α} (h : IsS27 w0 W g f0 f1 f2) (ho : d.S e W base ok v xs) (ht : ∀ q, q ∈ e :: d.E → q ≠ 27) : d.S e W base (fun k => ok k ∧ k ≠ g) v xs := by
  obtain ⟨hb, hg⟩ := h
  exact Kd.S_types ho hb ht
theorem IsS27.own_neS {w0 W : World} {g : Nat} {f0 : Int} {f1 : Int} {f2 : Int} {α : Type} {d : Kd α} {e : Nat} {base : Nat} {ok : Nat → Prop} {v : Value} {xs : List α} (h : IsS27 w0 W g f0 f1 f2) (ho : d.S e W base ok v xs) (ht : e ≠ 27) : some g ≠ v.ownBlock := by
  obtain ⟨hb, hg⟩ := h
  exact Kd.S_ne ho hb ht
theorem IsS27.lt {w0 W : World} {g : Nat} {f0 : Int} {f1 : Int} {f2 : Int} (h : IsS27 w0 W g f0 f1 f2) : g < W.heap.size := by
  obtain ⟨hb, hg⟩ := h
  exact blk_lt hb
theorem IsS27.ge {w0 W : World} {g : Nat} {f0 : Int} {f1 : Int} {f2 : Int} (h : IsS27 w0 W g f0 f1 f2) : w0.heap.size ≤ g := by
  obtain ⟨hb, hg⟩ := h
  exact hg
theorem IsS27.ne_blk {w0 W : World} {g : Nat} {f0 : Int} {f1 : Int} {f2 : Int} {a : Nat} {cs : Array Value} {t : TypeId} {fr : Nat × Nat} (h : IsS27 w0 W g f0 f1 f2) (hb2 : W.heap[a]? = some (.cells cs t fr)) (ht : t ≠ 27) : g ≠ a := by
  obtain ⟨hb, hg⟩ := h
  rintro rfl
  rw [hb] at hb2
  injection hb2 with hb2
  injection hb2 with _ ht2
  exact ht ht2.symm
theorem IsS27.far {w0 W : World} {g : Nat} {f0 : Int} {f1 : Int} {f2 : Int} {p : Addr} (h : IsS27 w0 W g f0 f1 f2) (hne : g ≠ p.block) (u : Value) : IsS27 w0 (W.setCell p u) g f0 f1 f2 := by
  obtain ⟨hb, hg⟩ := h
  exact ⟨blk_far hb hne u, hg⟩
theorem cellS27_0 {W : World} {g : Nat} {f0 : Int} {f1 : Int} {f2 : Int} (h : W.heap[g]? = some (.cells #[.int .i64 f0, .int .i64 f1, .int .i64 f2] 27 (0, 0))) : W.cell? ⟨g, 0, none⟩ = some (.int .i64 f0) := (blk_cell h 0).trans rfl
theorem IsS27.set_0 {w0 W : World} {g : Nat} {f0 : Int} {f1 : Int} {f2 : Int} (h : IsS27 w0 W g f0 f1 f2) (x : Int) : IsS27 w0 (W.setCell ⟨g, 0, none⟩ (.int .i64 x)) g x f1 f2 := by
  obtain ⟨hb, hg⟩ := h
  exact ⟨by simpa using blk_set hb 0 (.int .i64 x), hg⟩
theorem cellS27_1 {W : World} {g : Nat} {f0 : Int} {f1 : Int} {f2 : Int} (h : W.heap[g]? = some (.cells #[.int .i64 f0, .int .i64 f1, .int .i64 f2] 27 (0, 0))) : W.cell? ⟨g, 1, none⟩ = some (.int .i64 f1) := (blk_cell h 1).trans rfl
theorem IsS27.set_1 {w0 W : World} {g : Nat} {f0 : Int} {f1 : Int} {f2 : Int} (h : IsS27 w0 W g f0 f1 f2) (x : Int) : IsS27 w0 (W.setCell ⟨g, 1, none⟩ (.int .i64 x)) g f0 x f2 := by
  obtain ⟨hb, hg⟩ := h
  exact ⟨by simpa using blk_set hb 1 (.int .i64 x), hg⟩
theorem cellS27_2 {W : World} {g : Nat} {f0 : Int} {f1 : Int} {f2 : Int} (h : W.heap[g]? = some (.cells #[.int .i64 f0, .int .i64 f1, .int .i64 f2] 27 (0, 0))) : W.cell? ⟨g, 2, none⟩ = some (.int .i64 f2) := (blk_cell h 2).trans rfl
theorem IsS27.set_2 {w0 W : World} {g : Nat} {f0 : Int} {f1 : Int} {f2 : Int} (h : IsS27 w0 W g f0 f1 f2) (x : Int) : IsS27 w0 (W.setCell ⟨g, 2, none⟩ (.int .i64 x)) g f0 f1 x := by
  obtain ⟨hb, hg⟩ := h
  exact ⟨by simpa using blk_set hb 2 (.int .i64 x), hg⟩
theorem IsS27.new (w0 W : World) (f0 : Int) (f1 : Int) (f2 : Int) (hB : Below w0.heap.size w0 W) : IsS27 w0 (W.alloc (.cells #[.int .i64 f0, .int .i64 f1, .int .i64 f2] 27)) W.heap.size f0 f1 f2 := ⟨by simpa using heap_alloc_new W _, hB.size⟩

/-! ### impl_NetPosts: function 20 -/
section
open Go.Maps
def impl_NetPosts.okPost (p : S27) : Bool := decide ((0 ≤ p.f0 ∧ p.f0 ≤ 5) ∧ (0 ≤ p.f1 ∧ p.f1 ≤ 5) ∧ p.f0 ≠ p.f1 ∧ 1 ≤ p.f2 ∧ p.f2 ≤ 1000000000)
/-- What postings bring from one account to another one. -/
def impl_NetPosts.net (l : List S27) (a b : Int) : Int := l.foldl (fun n p => n + (if p.f0 = a ∧ p.f1 = b then p.f2 else 0) - (if p.f0 = b ∧ p.f1 = a then p.f2 else 0)) 0
theorem impl_NetPosts.net_snoc (l : List S27) (p : S27) (a b : Int) : impl_NetPosts.net (l ++ [p]) a b = impl_NetPosts.net l a b + (if p.f0 = a ∧ p.f1 = b then p.f2 else 0) - (if p.f0 = b ∧ p.f1 = a then p.f2 else 0) := by
  unfold impl_NetPosts.net
  rw [List.foldl_append]
  rfl
theorem impl_NetPosts.net_bd (l : List S27) (h : ∀ p ∈ l, impl_NetPosts.okPost p = true) (a b : Int) (k : Nat) : k ≤ l.length → -(1000000000 * (k : Int)) ≤ impl_NetPosts.net (l.take k) a b ∧ impl_NetPosts.net (l.take k) a b ≤ 1000000000 * (k : Int) := by
  induction k with
  | zero => exact fun _ => ⟨by simp [impl_NetPosts.net], by simp [impl_NetPosts.net]⟩
  | succ k ih =>
    intro hk
    have h1 := ih (by omega)
    have h2 : (0 ≤ l[k].f0 ∧ l[k].f0 ≤ 5) ∧ (0 ≤ l[k].f1 ∧ l[k].f1 ≤ 5) ∧ l[k].f0 ≠ l[k].f1 ∧ 1 ≤ l[k].f2 ∧ l[k].f2 ≤ 1000000000 := of_decide_eq_true (h l[k] (List.getElem_mem _))
    rw [List.take_succ_eq_append_getElem (by omega), impl_NetPosts.net_snoc]
    split <;> split <;> omega
def impl_NetPosts.good (l : List S27) : Bool := decide (l.length ≤ 40) && l.all impl_NetPosts.okPost
/-- The postings for two accounts. -/
def impl_NetPosts.post (l : List S27) (a b : Int) : List S27 := (if impl_NetPosts.net l a b > 0 then [⟨a, b, impl_NetPosts.net l a b⟩] else []) ++ (if impl_NetPosts.net l a b < 0 then [⟨b, a, -impl_NetPosts.net l a b⟩] else [])
def impl_NetPosts.fits (l : List S27) (a b : Int) : Bool := decide (-1000000000 ≤ impl_NetPosts.net l a b ∧ impl_NetPosts.net l a b ≤ 1000000000)
/-- The inner loop: d rounds up to account 5. -/
def impl_NetPosts.inner (l : List S27) (a : Int) : Nat → List S27 → Option (List S27)
  | 0, out => some out
  | d + 1, out => if impl_NetPosts.fits l a (5 - (d : Int)) = true then impl_NetPosts.inner l a d (out ++ impl_NetPosts.post l a (5 - (d : Int))) else none
/-- The outer loop: d rounds. -/
def impl_NetPosts.outer (l : List S27) : Nat → List S27 → Option (List S27)
  | 0, out => some out
  | d + 1, out => (impl_NetPosts.inner l (4 - (d : Int)) (d + 1) out).bind fun o => impl_NetPosts.outer l d o
def impl_NetPosts.v (l : List S27) : List S27 × Bool := match impl_NetPosts.outer l 5 [] with
  | some out => (out, true)
  | none => ([], false)
def impl_NetPosts.f (k : Nat) (l0 : List S27) : Option (List S27 × Bool) :=
  (impl_ValidPosts.f k l0).bind fun t => if t = true then (if impl_NetPosts.good l0 = true then some (impl_NetPosts.v l0) else none) else some ([], false)
theorem impl_NetPosts.mono : ∀ a0 k, LeO (impl_NetPosts.f k a0) (impl_NetPosts.f (k + 1) a0) := by
  intro a0 k
  unfold impl_NetPosts.f
  exact LeO.bind (impl_ValidPosts.mono a0 k) (fun _ => LeO.refl _)
theorem impl_NetPosts.infoP : (Try.prog.info? 27).map (fun i => (i.zero, i.size, i.bytes)) = some (some (.agg #[(.int .i64 0), (.int .i64 0), (.int .i64 0)]), 3, 24) := by kernel_rfl
theorem impl_NetPosts.rowK : (52 : Nat) < Try.prog.types.size := of_decide_eq_true (by kernel_rfl)
theorem impl_NetPosts.laid : laidOutB Try.prog = true := by kernel_rfl
theorem impl_NetPosts.wide : (match Try.prog.underlying 52 with | some (.array _ _) | some (.struct _) => true | _ => false) = true := by kernel_rfl
theorem impl_NetPosts.lawS : WideMaps.KeyLaw Try.prog 52 := deep_law_laid impl_NetPosts.laid (m := 3) (by omega) impl_NetPosts.rowK (by kernel_rfl) impl_NetPosts.wide
theorem impl_NetPosts.lawK : Keyed Try.prog 52 := Keyed.of_law impl_NetPosts.lawS
theorem impl_NetPosts.zero3 (w : World) : (zeroValue 3).run Try.prog w = .ok (.int .i64 0) w := by kernel_rfl
def impl_NetPosts.key (a b : Int) : Lit := .string (keyBytes [.int .i64 a, .int .i64 b])
theorem impl_NetPosts.keyIs {a b : Int} (wa : (Lit.int .i64 a).wf = true) (wb : (Lit.int .i64 b).wf = true) : keyOf Try.prog 52 (.agg #[.int .i64 a, .int .i64 b]) = some (impl_NetPosts.key a b) := by
  have hsz : ∃ m, Try.prog.types.size = m + 1 := Nat.exists_eq_succ_of_ne_zero (Nat.ne_of_gt (Nat.lt_of_le_of_lt (Nat.zero_le _) impl_NetPosts.rowK))
  have hkt : Try.prog.keyType 52 = true := by kernel_rfl
  have hf : (Value.agg #[.int .i64 a, .int .i64 b]).formed Try.prog 52 = true := by
    simp [Value.formed, Try.underlying52]
    try kernel_rfl
  obtain ⟨m, hm⟩ := hsz
  unfold Go.keyOf
  simp only [Try.underlying52]
  rw [if_pos (by rw [hkt, hf]; rfl), hm]
  unfold Program.keyLits
  simp only [Try.underlying52, Value.cells]
  rw [if_pos (by refine ⟨?_, ?_⟩ <;> kernel_rfl)]
  have hc : Try.prog.cellsOf 3 = 1 := by kernel_rfl
  simp [Program.keyLits, Try.underlying3, wa, wb, impl_NetPosts.key, hc]
theorem impl_NetPosts.key_ne {a b c d : Int} (wa : (Lit.int .i64 a).wf = true) (wb : (Lit.int .i64 b).wf = true) (wc : (Lit.int .i64 c).wf = true) (wd : (Lit.int .i64 d).wf = true) (h : ¬ (a = c ∧ b = d)) : impl_NetPosts.key a b ≠ impl_NetPosts.key c d := by
  intro e
  have h1 := impl_NetPosts.keyIs wa wb
  have h2 := impl_NetPosts.keyIs wc wd
  rw [e] at h1
  have := impl_NetPosts.lawK.inj h1 h2
  simp at this
  exact h this
theorem impl_NetPosts.key_lit (a b : Int) : WideAt.IsKeyLit (impl_NetPosts.key a b) := trivial
end
section
open Go.Maps Go.ChangeShapes Go.WideShapes Go.WideElems
open Go.WideMaps (KeyLaw)
open Go.ChangeMaps (setBlock heap_setBlock_same heap_setBlock_other)
/-- An entry that waits for its value. -/
def impl_NetPosts.Entry {H : Type} (P : Program) (k : TypeId) (R : Value → Option (DataW H × List MemPlace)) (b n : Nat) (D : DataW H) (kl : Lit) (t : TypeId) (w1 : World) (st : Nat) : Prop :=
  ∀ (w2 : World) (val : Value) (d : DataW H) (ps : List MemPlace), w2.heap[b]? = w1.heap[b]? → R val = some (d, ps) →
    ∃ w3, (Instr.entryStore t (.map (some b)) (goInt st) val).run P w2 = .ok () w3 ∧ w3.ownsMap P k R b (n + 1) (D.put kl d) ∧ w2.grownBy w3 (some b)
theorem impl_NetPosts.enters {H : Type} {P : Program} {w : World} {k e t : TypeId} {R : Value → Option (DataW H × List MemPlace)} {b n : Nat} {D : DataW H} (K : KeyLaw P k) (ht : P.underlying t = some (.map k e)) {z : Value} (hz : ∀ u : World, (zeroValue e).run P u = .ok z u)
    {zd : DataW H} {zp : List MemPlace} (hzd : R z = some (zd, zp)) (hown : w.ownsMap P k R b n D) (hn : n < maxLen) {key : Value} {kl : Lit} (hkey : keyOf P k key = some kl) :
    ∃ (v0 : Value) (st : Nat) (w1 : World) (D1 : DataW H), (Instr.mapEntry t (.map (some b)) key).run P w = .ok (.tuple #[v0, goInt st]) w1 ∧ w.grownBy w1 (some b) ∧ impl_NetPosts.Entry P k R b n D kl t w1 st ∧ w1.ownsMap P k R b (n + 1) D1 ∧ D1.atKey kl zd = D.atKey kl zd := by
  have hown0 := hown
  obtain ⟨es, clock, hb, F, hs, rfl⟩ := hown
  obtain ⟨v0, st, es1, clock1, h1, _, h3⟩ := entry_then_store K ht hz hb F hkey
  have hD1 : ∃ D1 : DataW H, (setBlock w b (.map es1 clock1)).ownsMap P k R b (n + 1) D1 ∧ D1.atKey kl zd = (DataW.map ((es.toList.map (rg P k R)).foldr DataW.insert [])).atKey kl zd := by
    rcases K.find w hkey es.toList F.keys with ⟨g1, g2⟩ | ⟨j, e0, g1, g2, g3⟩
    · have hrun : (Instr.mapEntry t (.map (some b)) key).run P w = .ok (.tuple #[z, goInt clock]) (setBlock w b (.map (es.push ⟨key, z, clock⟩) (clock + 1))) := by
        simp [Instr.mapEntry, run_underlying ht, MapKept.run_getObj_map hb, K.check w false hkey, g1, hz, MapKept.run_setObj_map _ hb, Result.andThen, setBlock]
      have hw : setBlock w b (.map es1 clock1) = setBlock w b (.map (es.push ⟨key, z, clock⟩) (clock + 1)) := by
        have := h1.symm.trans hrun
        injection this
      obtain ⟨w', hr, r1, _⟩ := hown0.update (Keyed.of_law K) ht hn hkey hzd
      have hr2 : (Instr.mapUpdate t (.map (some b)) key z).run P w = .ok () (setBlock w b (.map (es.push ⟨key, z, clock⟩) (clock + 1))) := by
        simp [Instr.mapUpdate, run_underlying ht, MapKept.run_getObj_map hb, K.check w false hkey, g1, MapKept.run_setObj_map _ hb, Result.andThen, setBlock]
      have hw' : w' = setBlock w b (.map (es.push ⟨key, z, clock⟩) (clock + 1)) := by
        have := hr.symm.trans hr2
        injection this
      rw [hw, ← hw']
      refine ⟨_, r1, ?_⟩
      rw [atKey_put_same hown0.isMap ((Keyed.of_law K).key hkey)]
      rcases Maps.fit_look false (Keyed.of_law K) ht (hz w) hb F hkey with ⟨_, _, hat⟩ | ⟨e0, y, m1, m2, _⟩
      · exact (hat zd).symm
      · exfalso
        first
        | exact g2 e0 m1 m2
        | exact g2 e0 m1 m2.symm
        | exact g2 e0 m2 m1
    · have hj : es[j]? = some e0 := by simpa using g2
      have hsame : es.modify j (fun e => { e with key := key }) = es := by
        apply Array.ext'
        rw [Array.toList_modify, Go.ChangeMaps.modify_eq_set _ _ _ _ g2]
        have : ({ e0 with key := key } : MapEntry) = e0 := by rw [← g3]
        rw [this]
        exact set_self _ _ _ g2
      have hrun : (Instr.mapEntry t (.map (some b)) key).run P w = .ok (.tuple #[e0.val, goInt e0.born]) (setBlock w b (.map es clock)) := by
        simp [Instr.mapEntry, run_underlying ht, MapKept.run_getObj_map hb, K.check w false hkey, g1, hj, g3, K.stays w hkey, hsame, MapKept.run_setObj_map _ hb, Result.andThen, setBlock]
      have hw : setBlock w b (.map es1 clock1) = setBlock w b (.map es clock) := by
        have := h1.symm.trans hrun
        injection this
      rw [hw]
      exact ⟨_, ⟨es, clock, heap_setBlock_same hb _, F, by omega, rfl⟩, rfl⟩
  obtain ⟨D1, hD1, hat1⟩ := hD1
  refine ⟨v0, st, _, D1, h1, ⟨rfl, rfl, rfl, by simp [setBlock], fun i _ hi => heap_setBlock_other hb _ (fun e => hi (by rw [e]))⟩, ?_, hD1, hat1⟩
  intro w2 val d ps h2 hv
  rw [heap_setBlock_same hb] at h2
  obtain ⟨es', clock', h4, h5⟩ := h3 w2 val h2
  obtain ⟨w', hrun, r1, _⟩ := hown0.update (Keyed.of_law K) ht hn hkey hv
  obtain rfl : w' = setBlock w b (.map es' clock') := by
    have := hrun.symm.trans h5
    simpa using this
  obtain ⟨es2, clock2, hb2, F2, hs2, hD2⟩ := r1
  rw [heap_setBlock_same hb] at hb2
  cases hb2
  exact ⟨_, h4, ⟨es', clock', heap_setBlock_same h2 _, F2, hs2, hD2⟩, ⟨rfl, rfl, rfl, by simp [setBlock], fun i _ hi => heap_setBlock_other h2 _ (fun e => hi (by rw [e]))⟩⟩
/-- The same at elements of type int, with the look-up at the key before and behind. -/
theorem impl_NetPosts.entersI {P : Program} {w : World} {k e t : TypeId} {b n : Nat} {D : DataW Unit} (K : KeyLaw P k) (ht : P.underlying t = some (.map k e)) (he : P.underlying e = some (.int .i64)) (hz : ∀ u : World, (zeroValue e).run P u = .ok (.int .i64 0) u)
    (hown : w.ownsMap P k (plainElem P e) b n D) (hn : n < maxLen) {key : Value} {kl : Lit} (hkey : keyOf P k key = some kl) {c : Int} (hc : D.atKey kl (.lit (.int .i64 0)) = .lit (.int .i64 c)) :
    (Instr.lookup t (.map (some b)) key false).run P w = .ok (.int .i64 c) w ∧
    ∃ (v0 : Value) (st : Nat) (w1 : World), (Instr.mapEntry t (.map (some b)) key).run P w = .ok (.tuple #[v0, goInt st]) w1 ∧ w.grownBy w1 (some b) ∧ impl_NetPosts.Entry P k (plainElem (H := Unit) P e) b n D kl t w1 st ∧ (Instr.lookup t (.map (some b)) key false).run P w1 = .ok (.int .i64 c) w1 := by
  have hzd : plainElem (H := Unit) P e (.int .i64 0) = some (.lit (.int .i64 0), []) := plainElem_int he (by decide)
  obtain ⟨v0, st, w1, D1, h1, h2, h3, h4, h5⟩ := impl_NetPosts.enters K ht hz hzd hown hn hkey
  obtain ⟨c1, r1, a1, _⟩ := hown.lookup_int (Keyed.of_law K) ht he (hz w) hkey
  obtain ⟨c2, r2, a2, _⟩ := h4.lookup_int (Keyed.of_law K) ht he (hz w1) hkey
  rw [hc] at a1
  rw [h5, hc] at a2
  obtain rfl : c = c1 := by simpa using a1
  obtain rfl : c = c2 := by simpa using a2
  exact ⟨r1, v0, st, w1, h1, h2, h3, r2⟩
/-- What the map holds behind some postings. -/
def impl_NetPosts.Holds (D : DataW Unit) (l : List S27) : Prop := ∀ a b : Int, (0 ≤ a ∧ a < b ∧ b ≤ 5) → D.atKey (impl_NetPosts.key a b) (.lit (.int .i64 0)) = .lit (.int .i64 (impl_NetPosts.net l a b))
theorem impl_NetPosts.Holds.start : impl_NetPosts.Holds (.map []) [] := fun a b _ => rfl
theorem impl_NetPosts.wf5 {a : Int} (h0 : 0 ≤ a) (h1 : a ≤ 5) : (Lit.int .i64 a).wf = true := WalkArith.wf_i64 (by omega)
theorem impl_NetPosts.Holds.up {D : DataW Unit} {l : List S27} (h : impl_NetPosts.Holds D l) (hD : IsMap D) (p : S27) (h0 : 0 ≤ p.f0) (h1 : p.f0 < p.f1) (h2 : p.f1 ≤ 5) :
    impl_NetPosts.Holds (D.put (impl_NetPosts.key p.f0 p.f1) (.lit (.int .i64 (impl_NetPosts.net l p.f0 p.f1 + p.f2)))) (l ++ [p]) := by
  intro a b hab
  rw [impl_NetPosts.net_snoc]
  by_cases c : p.f0 = a ∧ p.f1 = b
  · obtain ⟨rfl, rfl⟩ := c
    rw [atKey_put_same hD (impl_NetPosts.key_lit _ _), if_pos ⟨rfl, rfl⟩, if_neg (by omega), Int.sub_zero]
  · rw [atKey_put_other (impl_NetPosts.key_ne (impl_NetPosts.wf5 (by omega) (by omega)) (impl_NetPosts.wf5 (by omega) (by omega)) (impl_NetPosts.wf5 (by omega) (by omega)) (impl_NetPosts.wf5 (by omega) (by omega)) (by omega)), h a b hab, if_neg c, if_neg (by omega), Int.sub_zero, Int.add_zero]
theorem impl_NetPosts.Holds.down {D : DataW Unit} {l : List S27} (h : impl_NetPosts.Holds D l) (hD : IsMap D) (p : S27) (h0 : 0 ≤ p.f1) (h1 : p.f1 < p.f0) (h2 : p.f0 ≤ 5) :
    impl_NetPosts.Holds (D.put (impl_NetPosts.key p.f1 p.f0) (.lit (.int .i64 (impl_NetPosts.net l p.f1 p.f0 - p.f2)))) (l ++ [p]) := by
  intro a b hab
  rw [impl_NetPosts.net_snoc]
  by_cases c : p.f0 = b ∧ p.f1 = a
  · obtain ⟨rfl, rfl⟩ := c
    rw [atKey_put_same hD (impl_NetPosts.key_lit _ _), if_neg (by omega), if_pos ⟨rfl, rfl⟩, Int.add_zero]
  · rw [atKey_put_other (impl_NetPosts.key_ne (impl_NetPosts.wf5 (by omega) (by omega)) (impl_NetPosts.wf5 (by omega) (by omega)) (impl_NetPosts.wf5 (by omega) (by omega)) (impl_NetPosts.wf5 (by omega) (by omega)) (by omega)), h a b hab, if_neg (by omega), if_neg c, Int.sub_zero, Int.add_zero]
end
section
open Go.Maps
theorem impl_NetPosts.within (a lo hi : Int) (w : World) : Calls Try.prog 28 #[.int .i64 a, .int .i64 lo, .int .i64 hi] w fun e w' => e = .returned (.bool (decide (lo ≤ a ∧ a ≤ hi))) ∧ ∃ n, w' = w.drewN n := by
  by_cases c : lo ≤ a
  · have e : decide (lo ≤ a ∧ a ≤ hi) = decide (a ≤ hi) := by simp [c]
    rw [e]
    have hd : decide (lo ≤ a) = true := decide_eq_true c
    clear e c
    go_enter Try.func28, Try.ntmps28
    go_wp2
    go_ret
    exact ⟨by first | rfl | (simp; done) | (simp [*]; done), by first | exact ⟨0, rfl⟩ | exact ⟨_, rfl⟩⟩
  · have e : decide (lo ≤ a ∧ a ≤ hi) = false := by simp; omega
    rw [e]
    have hd : decide (lo ≤ a) = false := decide_eq_false c
    clear e c
    go_enter Try.func28, Try.ntmps28
    go_wp2
    go_ret
    exact ⟨by first | rfl | (simp; done) | (simp [*]; done), by first | exact ⟨0, rfl⟩ | exact ⟨_, rfl⟩⟩
set_option maxHeartbeats 4000000 in
theorem impl_NetPosts.amount (a : Int) (w : World) : Calls Try.prog 34 #[.int .i64 a] w fun e w' => e = .returned (.bool (decide (-1000000000 ≤ a ∧ a ≤ 1000000000))) ∧ ∃ n, w' = w.drewN n := by
  have hm := impl_NetPosts.within a (-1000000000) 1000000000
  generalize decide (-1000000000 ≤ a ∧ a ≤ 1000000000) = v at hm ⊢
  go_enter Try.func34, Try.ntmps34
  go_wp2_with (go_at_call 28; refine (hm _).mono ?_; rintro e w1 ⟨rfl, n1, rfl⟩)
  go_ret
  exact ⟨rfl, n1, rfl⟩
theorem impl_NetPosts.look_run {P : Program} {a : Act} {oi : Oper} {t : TypeId} {m x : Operand} (hop : oi.op = Op.lookup t m x false) {mv key v : Value} (hm : a.eval m = mv) (hx : a.eval x = key) {w : World} (hrun : (Instr.lookup t mv key false).run P w = .ok v w) : (execOp a.eval oi).run P w = .ok (.value v) w := by
  simp [execOp, hop, hm, hx, hrun, Result.andThen]
theorem impl_NetPosts.entry_run {P : Program} {a : Act} {oi : Oper} {t : TypeId} {m x : Operand} (hop : oi.op = Op.mapEntry t m x) {mv key v : Value} (hm : a.eval m = mv) (hx : a.eval x = key) {w w1 : World} (hrun : (Instr.mapEntry t mv key).run P w = .ok v w1) : (execOp a.eval oi).run P w = .ok (.value v) w1 := by
  simp [execOp, hop, hm, hx, hrun, Result.andThen]
theorem impl_NetPosts.store_run {P : Program} {a : Act} {oi : Oper} {t : TypeId} {m s x : Operand} (hop : oi.op = Op.entryStore t m s x) {mv sv xv : Value} (hm : a.eval m = mv) (hs : a.eval s = sv) (hx : a.eval x = xv) {w w1 : World} (hrun : (Instr.entryStore t mv sv xv).run P w = .ok () w1) : (execOp a.eval oi).run P w = .ok .skip w1 := by
  simp [execOp, hop, hm, hs, hx, hrun, Result.andThen]
theorem impl_NetPosts.inner_succ (l : List S27) (a : Int) (d : Nat) (out : List S27) : impl_NetPosts.inner l a (d + 1) out = if impl_NetPosts.fits l a (5 - (d : Int)) = true then impl_NetPosts.inner l a d (out ++ impl_NetPosts.post l a (5 - (d : Int))) else none := rfl
theorem impl_NetPosts.own_drewN {P : Program} {w : World} {k : TypeId} {R : Value → Option (DataW Unit × List MemPlace)} {b n : Nat} {D : DataW Unit} (h : w.ownsMap P k R b n D) (m : Nat) : (w.drewN m).ownsMap P k R b n D := h
/-- The head of each round of the outer loop: d rounds left. -/
def impl_NetPosts.RelO (l0 : List S27) (w : World) (B : Nat) (D : DataW Unit) (V : Option (List S27)) (gg : Nat) (v7 v52 : Value) (wr : World) : Prop :=
  ∃ (d : Nat) (out : List S27), d ≤ gg ∧ d ≤ 5 ∧ v52 = .int .i64 (5 - (d : Int)) ∧ impl_NetPosts.outer l0 d out = V ∧ out.length + 5 * d ≤ 25 ∧ Kd.R k27 27 wr w.heap.size (fun k_ => k_ ≠ B) v7 out ∧ wr.ownsMap Try.prog 52 (plainElem Try.prog 3) B l0.length D ∧ Below w.heap.size w wr
/-- The head of each round of the inner loop: m rounds left. -/
def impl_NetPosts.RelI (l0 : List S27) (w : World) (B : Nat) (D : DataW Unit) (V : Option (List S27)) (d : Nat) (gg : Nat) (v7 v9 : Value) (wr : World) : Prop :=
  ∃ (m : Nat) (out : List S27), m ≤ gg ∧ m ≤ d + 1 ∧ v9 = .int .i64 (6 - (m : Int)) ∧ ((impl_NetPosts.inner l0 (4 - (d : Int)) m out).bind fun o => impl_NetPosts.outer l0 d o) = V ∧ out.length + m + 5 * d ≤ 25 ∧ Kd.R k27 27 wr w.heap.size (fun k_ => k_ ≠ B) v7 out ∧ wr.ownsMap Try.prog 52 (plainElem Try.prog 3) B l0.length D ∧ Below w.heap.size w wr
/-- The head of each round of the first loop. -/
def impl_NetPosts.Rel (l0 : List S27) (w : World) (B : Nat) (i : Value) (wr : World) : Prop :=
  ∃ n : Nat, n ≤ l0.length ∧ i = .int .i64 n ∧ ∃ D : DataW Unit, wr.ownsMap Try.prog 52 (plainElem Try.prog 3) B n D ∧ impl_NetPosts.Holds D (l0.take n) ∧ w.heap.size ≤ B ∧ Below w.heap.size w wr

set_option maxHeartbeats 4000000 in
set_option maxRecDepth 100000 in
theorem impl_NetPosts.calls (k : Nat) (A0 : Option Addr) (c0 : Nat) (l0 : List (S27)) (r1 : List (S27)) (r2 : Bool) (w : World) (hr0 : Kd.C k27 w A0 l0.length l0) (hc0 : l0.length ≤ c0) (h : impl_NetPosts.f k l0 = some (r1, r2)) :
    Calls Try.prog 20 #[.slice A0 l0.length c0] w fun e w' => ∃ v0_ : Value, e = .returned (.tuple #[v0_, .bool r2]) ∧ Kd.R k27 27 w' w.heap.size (fun _ => True) v0_ r1 ∧ Below w.heap.size w w' := by
  have HR0 := Aside0.mk hr0
  have HC0 := Aside0.mk hc0
  clear hr0 hc0
  unfold impl_NetPosts.f at h
  replace h := Option.bind_eq_some_iff.mp h
  obtain ⟨t, ht, h⟩ := h
  have HT := Aside0.mk ht
  clear ht
  cases t with
  | false =>
    obtain ⟨rfl, rfl⟩ : r1 = [] ∧ r2 = false := by
      have := Option.some.inj h
      simpa [eq_comm] using this
    clear h
    go_enter Try.func20, Try.ntmps20
    go_wp2_with (go_at_call 11; refine (impl_ValidPosts.calls k _ _ l0 false _ HR0.out HC0.out HT.out).mono ?_; rintro e w1 ⟨rfl, hb1⟩)
    go_ret2
    exact ⟨_, rfl, Kd.R_nil _ _ _ _ _, hb1⟩
  | true =>
    rw [if_pos rfl] at h
    have hg : impl_NetPosts.good l0 = true := by
      by_cases hg : impl_NetPosts.good l0 = true
      · exact hg
      · rw [if_neg hg] at h
        cases h
    rw [if_pos hg] at h
    have HV := Aside0.mk (Option.some.inj h)
    clear h
    have HG := Aside0.mk hg
    clear hg
    have hmm := @run_makeMap Try.prog
    go_enter Try.func20, Try.ntmps20
    go_wp2_with (go_at_call 11; refine (impl_ValidPosts.calls k _ _ l0 true _ HR0.out HC0.out HT.out).mono ?_; rintro e w1 ⟨rfl, hb1⟩; have HB1 := Aside0.mk hb1)
    go_loopw [17] (fun i wr => impl_NetPosts.Rel l0 w w1.heap.size i wr) (fun i _ => l0.length - (intOf i).toNat)
    case atStart => exact ⟨0, Nat.zero_le _, rfl, .map [], World.ownsMap_made _ _ _ _, impl_NetPosts.Holds.start, hb1.size, hb1.alloc hb1.size _⟩
    case round =>
      obtain ⟨n, hn, rfl, D, hown, hD, hB, hbr⟩ := hrel
      by_cases hlt : n < l0.length
      · obtain ⟨ad, rfl, hx0, hx1, hx2⟩ := at_T27 HR0.out (n : Int) (by omega) (by omega)
        rw [Int.toNat_natCast] at hx0 hx1 hx2
        replace hx0 := (hbr.cell (World.block_lt_of_cell? w _ hx0)).trans hx0
        replace hx1 := (hbr.cell (World.block_lt_of_cell? w _ hx1)).trans hx1
        replace hx2 := (hbr.cell (World.block_lt_of_cell? w _ hx2)).trans hx2
        have hgd := HG.out
        unfold impl_NetPosts.good at hgd
        simp only [Bool.and_eq_true, decide_eq_true_eq, List.all_eq_true] at hgd
        obtain ⟨hg1, hg2⟩ := hgd
        have hmem : rd_T27 l0 (n : Int) = l0[n] := by
          unfold rd_T27
          rw [List.getD_eq_getElem?_getD, Int.toNat_natCast, List.getElem?_eq_getElem hlt]
          rfl
        have hok := hg2 _ (List.getElem_mem hlt)
        rw [← hmem] at hok
        have hbd := fun a b => impl_NetPosts.net_bd l0 hg2 a b n (by omega)
        have htk : l0.take (n + 1) = l0.take n ++ [rd_T27 l0 (n : Int)] := by rw [hmem, List.take_succ_eq_append_getElem hlt]
        generalize rd_T27 l0 (n : Int) = p at hx0 hx1 hx2 hok htk
        clear hmem
        have hp : (0 ≤ p.f0 ∧ p.f0 ≤ 5) ∧ (0 ≤ p.f1 ∧ p.f1 ≤ 5) ∧ p.f0 ≠ p.f1 ∧ 1 ≤ p.f2 ∧ p.f2 ≤ 1000000000 := of_decide_eq_true hok
        have HD := Aside0.mk hD
        have HOW := Aside0.mk hown
        have HBD := Aside0.mk hbd
        have HTK := Aside0.mk htk
        have HBR := Aside0.mk hbr
        clear hD hown hbd htk hbr hg2 hok
        by_cases hud : p.f0 < p.f1
        · skip
          have hd : decide (p.f0 < p.f1) = true := decide_eq_true hud
          have hxy : p.f0 < p.f1 := by omega
          have hkk := impl_NetPosts.keyIs (impl_NetPosts.wf5 (show 0 ≤ p.f0 by omega) (by omega)) (impl_NetPosts.wf5 (show 0 ≤ p.f1 by omega) (by omega))
          obtain ⟨c, hcN⟩ : ∃ c, c = impl_NetPosts.net (l0.take n) p.f0 p.f1 := ⟨_, rfl⟩
          have hcb := HBD.out p.f0 p.f1
          have hat := HD.out p.f0 p.f1 ⟨by omega, hxy, by omega⟩
          rw [← hcN] at hcb hat
          have hcb1 := hcb.1
          have hcb2 := hcb.2
          have HCN := Aside0.mk hcN
          have HWW := Aside0.mk (show wrap64 (c + p.f2) = c + p.f2 by unfold wrap64; omega)
          have HWF := Aside0.mk (show (Lit.int .i64 (c + p.f2)).wf = true from WalkArith.wf_i64 (by omega))
          have HXY := Aside0.mk hxy
          have HP := Aside0.mk hp
          clear hcN hcb hcb1 hcb2 hxy hp
          go_wp2
          have hoB := (HOW.out.alloc (.cells #[.int .i64 p.f0, .int .i64 p.f1, .int .i64 p.f2] 27)).drew
          have hbB := below_drew1 (below_alloc HBR.out (.cells #[.int .i64 p.f0, .int .i64 p.f1, .int .i64 p.f2] 27))
          have hs0 : (wr.alloc (.cells #[.int .i64 p.f0, .int .i64 p.f1, .int .i64 p.f2] 27)).drew.cell? ⟨wr.heap.size, 0, none⟩ = some (.int .i64 p.f0) := (blk_cell (heap_alloc_new wr _) 0).trans rfl
          have hs1 : (wr.alloc (.cells #[.int .i64 p.f0, .int .i64 p.f1, .int .i64 p.f2] 27)).drew.cell? ⟨wr.heap.size, 1, none⟩ = some (.int .i64 p.f1) := (blk_cell (heap_alloc_new wr _) 1).trans rfl
          have hs2 : (wr.alloc (.cells #[.int .i64 p.f0, .int .i64 p.f1, .int .i64 p.f2] 27)).drew.cell? ⟨wr.heap.size, 2, none⟩ = some (.int .i64 p.f2) := (blk_cell (heap_alloc_new wr _) 2).trans rfl
          have hnb : wr.heap.size ≠ w1.heap.size := Nat.ne_of_gt HOW.out.lt
          obtain ⟨hl1, v9, st, w9, hrun9, hg9, hE9, hl9⟩ := impl_NetPosts.entersI impl_NetPosts.lawS Try.underlying50 Try.underlying3 impl_NetPosts.zero3 hoB (by unfold maxLen; omega) hkk hat
          have ht0 : w9.cell? ⟨wr.heap.size, 0, none⟩ = some (.int .i64 p.f0) := hg9.cell hs0 (by simpa using hnb)
          have ht1 : w9.cell? ⟨wr.heap.size, 1, none⟩ = some (.int .i64 p.f1) := hg9.cell hs1 (by simpa using hnb)
          have ht2 : w9.cell? ⟨wr.heap.size, 2, none⟩ = some (.int .i64 p.f2) := hg9.cell hs2 (by simpa using hnb)
          obtain ⟨w10, hrun10, ho10, hg10⟩ := hE9 w9 (.int .i64 (wrap64 (c + p.f2))) (.lit (.int .i64 (c + p.f2))) [] rfl (by rw [HWW.out]; exact plainElem_int Try.underlying3 HWF.out)
          have hb9 := hbB.grown hg9 hbB.size (fun j hj => by cases hj; exact hB)
          have HB10 := Aside0.mk (hb9.grown hg10 hb9.size (fun j hj => by cases hj; exact hB))
          have HO10 := Aside0.mk ho10
          have HRUN9 := Aside0.mk hrun9
          have HRUN10 := Aside0.mk hrun10
          have HTT := Aside0.mk (And.intro ht0 (And.intro ht1 (And.intro ht2 hl9)))
          have HSS := Aside0.mk (And.intro hs0 (And.intro hs1 (And.intro hs2 hl1)))
          clear ho10 hg10 hg9 hrun9 hrun10 ht0 ht1 ht2 hl9 hs0 hs1 hs2 hl1 hE9 hb9 hat hkk hoB hbB hnb
          refine start_ (n := 13) (S := fun w' => w'.cell? ⟨wr.heap.size, 0, none⟩ = some (.int .i64 p.f0) ∧ w'.cell? ⟨wr.heap.size, 1, none⟩ = some (.int .i64 p.f1) ∧ w'.cell? ⟨wr.heap.size, 2, none⟩ = some (.int .i64 p.f2) ∧ (Instr.lookup 50 (.map (some w1.heap.size)) (.agg #[.int .i64 p.f0, .int .i64 p.f1]) false).run Try.prog w' = .ok (.int .i64 c) w') (ds := [12]) #[false, false, false, false, false, false, false, false, false, false, false, false, false] (by kernel_rfl) rfl rfl HSS.out (fun hHeld => ?_)
          refine pure_ (i := 0) (N := some 26) (v := ?_) (a' := ?_) #[true, false, false, false, false, false, false, false, false, false, false, false, false] rfl rfl (by kernel_rfl) (fun _ _ _ h => h) (Or.inl ⟨by rfl, ?_⟩) ?_ ?_
          rotate_left
          · intro w'
            go_simp
            with_reducible rfl
          rotate_left
          · simp only [Act.put, List.setIfInBounds_toArray, List.set_cons_zero, List.set_cons_succ, i64_w, i32_w]
            rfl
          refine pure_ (i := 1) (N := some 27) (v := ?_) (a' := ?_) #[true, true, false, false, false, false, false, false, false, false, false, false, false] rfl rfl (by kernel_rfl) (fun _ _ _ h => h) (Or.inl ⟨by rfl, ?_⟩) ?_ ?_
          rotate_left
          · intro w'
            go_simp
            with_reducible rfl
          rotate_left
          · simp only [Act.put, List.setIfInBounds_toArray, List.set_cons_zero, List.set_cons_succ, i64_w, i32_w]
            rfl
          refine pure_ (i := 3) (N := some 29) (v := ?_) (a' := ?_) #[true, true, false, true, false, false, false, false, false, false, false, false, false] rfl rfl (by kernel_rfl) (fun _ _ _ h => h) (Or.inl ⟨by rfl, ?_⟩) ?_ ?_
          rotate_left
          · intro w'
            go_simp
            with_reducible rfl
          rotate_left
          · simp only [Act.put, List.setIfInBounds_toArray, List.set_cons_zero, List.set_cons_succ, i64_w, i32_w]
            rfl
          refine pure_ (i := 7) (N := some 33) (v := ?_) (a' := ?_) #[true, true, false, true, false, false, false, true, false, false, false, false, false] rfl rfl (by kernel_rfl) (fun _ _ _ h => h) (Or.inl ⟨by rfl, ?_⟩) ?_ ?_
          rotate_left
          · intro w'
            go_simp
            with_reducible rfl
          rotate_left
          · simp only [Act.put, List.setIfInBounds_toArray, List.set_cons_zero, List.set_cons_succ, i64_w, i32_w]
            rfl
          refine take_ (i := 2) (N := some 28) (v := ?_) (a' := ?_) #[true, true, true, true, false, false, false, true, false, false, false, false, false] rfl rfl (by kernel_rfl) (fun _ _ _ h => h) (Or.inl ⟨by rfl, ?_⟩) hHeld ?_ ?_
          rotate_left
          · rintro w' ⟨s0, s1, s2, s3⟩
            go_simp
            with_reducible rfl
          rotate_left
          · simp only [Act.put, List.setIfInBounds_toArray, List.set_cons_zero, List.set_cons_succ, i64_w, i32_w]
            rfl
          refine take_ (i := 4) (N := some 30) (v := ?_) (a' := ?_) #[true, true, true, true, true, false, false, true, false, false, false, false, false] rfl rfl (by kernel_rfl) (fun _ _ _ h => h) (Or.inl ⟨by rfl, ?_⟩) hHeld ?_ ?_
          rotate_left
          · rintro w' ⟨s0, s1, s2, s3⟩
            go_simp
            with_reducible rfl
          rotate_left
          · simp only [Act.put, List.setIfInBounds_toArray, List.set_cons_zero, List.set_cons_succ, i64_w, i32_w]
            rfl
          refine take_ (i := 8) (N := some 34) (v := ?_) (a' := ?_) #[true, true, true, true, true, false, false, true, true, false, false, false, false] rfl rfl (by kernel_rfl) (fun _ _ _ h => h) (Or.inl ⟨by rfl, ?_⟩) hHeld ?_ ?_
          rotate_left
          · rintro w' ⟨s0, s1, s2, s3⟩
            go_simp
            with_reducible rfl
          rotate_left
          · simp only [Act.put, List.setIfInBounds_toArray, List.set_cons_zero, List.set_cons_succ, i64_w, i32_w]
            rfl
          refine pure_ (i := 5) (N := some 31) (v := ?_) (a' := ?_) #[true, true, true, true, true, true, false, true, true, false, false, false, false] rfl rfl (by kernel_rfl) (fun _ _ _ h => h) (Or.inl ⟨by rfl, ?_⟩) ?_ ?_
          rotate_left
          · intro w'
            go_simp
            with_reducible rfl
          rotate_left
          · simp only [Act.put, List.setIfInBounds_toArray, List.set_cons_zero, List.set_cons_succ, i64_w, i32_w]
            rfl
          refine take_ (i := 6) (N := some 32) (v := .int .i64 c) (a' := ?_) #[true, true, true, true, true, true, true, true, true, false, false, false, false] rfl rfl (by kernel_rfl) (fun _ _ _ h => h) (Or.inl ⟨by rfl, ?_⟩) hHeld ?_ ?_
          · rintro w' ⟨s0, s1, s2, s3⟩
            exact impl_NetPosts.look_run (mv := .map (some w1.heap.size)) (key := (.agg #[.int .i64 p.f0, .int .i64 p.f1])) rfl rfl rfl s3
          rotate_left
          · simp only [Act.put, List.setIfInBounds_toArray, List.set_cons_zero, List.set_cons_succ, i64_w, i32_w]
            rfl
          refine pure_ (i := 9) (N := some 35) (v := ?_) (a' := ?_) #[true, true, true, true, true, true, true, true, true, true, false, false, false] rfl rfl (by kernel_rfl) (fun _ _ _ h => h) (Or.inl ⟨by rfl, ?_⟩) ?_ ?_
          rotate_left
          · intro w'
            go_simp
            with_reducible rfl
          rotate_left
          · simp only [Act.put, List.setIfInBounds_toArray, List.set_cons_zero, List.set_cons_succ, i64_w, i32_w]
            rfl
          refine one_ (i := 10) (N := some 36) #[true, true, true, true, true, true, true, true, true, true, true, false, false] rfl rfl (by kernel_rfl) (by decide) (fun K hK => ?_)
          refine value_ (w1 := w9) (by rfl) rfl (impl_NetPosts.entry_run (mv := .map (some w1.heap.size)) (key := (.agg #[.int .i64 p.f0, .int .i64 p.f1])) rfl rfl rfl HRUN9.out) ?_
          refine hK.out _ _ HTT.out (fun hHeld => ?_)
          clear hK K
          refine norm_ (a' := ?_) ?_ ?_
          rotate_left
          · show Act.put _ (some 36) _ = _
            simp only [Act.put, List.setIfInBounds_toArray, List.set_cons_zero, List.set_cons_succ, i64_w, i32_w]
            rfl
          refine pure_ (i := 11) (N := some 37) (v := ?_) (a' := ?_) #[true, true, true, true, true, true, true, true, true, true, true, true, false] rfl rfl (by kernel_rfl) (fun _ _ _ h => h) (Or.inl ⟨by rfl, ?_⟩) ?_ ?_
          rotate_left
          · intro w'
            go_simp
            with_reducible rfl
          rotate_left
          · simp only [Act.put, List.setIfInBounds_toArray, List.set_cons_zero, List.set_cons_succ, i64_w, i32_w]
            rfl
          refine last_ (i := 12) (N := none) #[true, true, true, true, true, true, true, true, true, true, true, true, true] rfl rfl (by kernel_rfl) (by decide) (fun K hK => ?_)
          refine skip_ (w1 := w10) (by rfl) rfl (impl_NetPosts.store_run (mv := .map (some w1.heap.size)) (sv := goInt st) (xv := .int .i64 (wrap64 (c + p.f2))) rfl rfl rfl rfl HRUN10.out) ?_
          refine hK.out _ _ ?_
          clear hK K
          refine done_ (by kernel_rfl) ?_
          try go_wp2
          go_roundw
          case rel =>
            refine ⟨n + 1, by omega, by go_num, _, HO10.out, ?_, hB, HB10.out⟩
            rw [HTK.out, HCN.out]
            exact impl_NetPosts.Holds.up HD.out HOW.out.isMap p (by have := HP.out; omega) HXY.out (by have := HP.out; omega)
          case measure => simp [intOf]; omega
        · skip
          have hd : decide (p.f0 < p.f1) = false := decide_eq_false hud
          have hxy : p.f1 < p.f0 := by omega
          have hkk := impl_NetPosts.keyIs (impl_NetPosts.wf5 (show 0 ≤ p.f1 by omega) (by omega)) (impl_NetPosts.wf5 (show 0 ≤ p.f0 by omega) (by omega))
          obtain ⟨c, hcN⟩ : ∃ c, c = impl_NetPosts.net (l0.take n) p.f1 p.f0 := ⟨_, rfl⟩
          have hcb := HBD.out p.f1 p.f0
          have hat := HD.out p.f1 p.f0 ⟨by omega, hxy, by omega⟩
          rw [← hcN] at hcb hat
          have hcb1 := hcb.1
          have hcb2 := hcb.2
          have HCN := Aside0.mk hcN
          have HWW := Aside0.mk (show wrap64 (c - p.f2) = c - p.f2 by unfold wrap64; omega)
          have HWF := Aside0.mk (show (Lit.int .i64 (c - p.f2)).wf = true from WalkArith.wf_i64 (by omega))
          have HXY := Aside0.mk hxy
          have HP := Aside0.mk hp
          clear hcN hcb hcb1 hcb2 hxy hp
          go_wp2
          have hoB := (HOW.out.alloc (.cells #[.int .i64 p.f0, .int .i64 p.f1, .int .i64 p.f2] 27)).drew
          have hbB := below_drew1 (below_alloc HBR.out (.cells #[.int .i64 p.f0, .int .i64 p.f1, .int .i64 p.f2] 27))
          have hs0 : (wr.alloc (.cells #[.int .i64 p.f0, .int .i64 p.f1, .int .i64 p.f2] 27)).drew.cell? ⟨wr.heap.size, 0, none⟩ = some (.int .i64 p.f0) := (blk_cell (heap_alloc_new wr _) 0).trans rfl
          have hs1 : (wr.alloc (.cells #[.int .i64 p.f0, .int .i64 p.f1, .int .i64 p.f2] 27)).drew.cell? ⟨wr.heap.size, 1, none⟩ = some (.int .i64 p.f1) := (blk_cell (heap_alloc_new wr _) 1).trans rfl
          have hs2 : (wr.alloc (.cells #[.int .i64 p.f0, .int .i64 p.f1, .int .i64 p.f2] 27)).drew.cell? ⟨wr.heap.size, 2, none⟩ = some (.int .i64 p.f2) := (blk_cell (heap_alloc_new wr _) 2).trans rfl
          have hnb : wr.heap.size ≠ w1.heap.size := Nat.ne_of_gt HOW.out.lt
          obtain ⟨hl1, v9, st, w9, hrun9, hg9, hE9, hl9⟩ := impl_NetPosts.entersI impl_NetPosts.lawS Try.underlying50 Try.underlying3 impl_NetPosts.zero3 hoB (by unfold maxLen; omega) hkk hat
          have ht0 : w9.cell? ⟨wr.heap.size, 0, none⟩ = some (.int .i64 p.f0) := hg9.cell hs0 (by simpa using hnb)
          have ht1 : w9.cell? ⟨wr.heap.size, 1, none⟩ = some (.int .i64 p.f1) := hg9.cell hs1 (by simpa using hnb)
          have ht2 : w9.cell? ⟨wr.heap.size, 2, none⟩ = some (.int .i64 p.f2) := hg9.cell hs2 (by simpa using hnb)
          obtain ⟨w10, hrun10, ho10, hg10⟩ := hE9 w9 (.int .i64 (wrap64 (c - p.f2))) (.lit (.int .i64 (c - p.f2))) [] rfl (by rw [HWW.out]; exact plainElem_int Try.underlying3 HWF.out)
          have hb9 := hbB.grown hg9 hbB.size (fun j hj => by cases hj; exact hB)
          have HB10 := Aside0.mk (hb9.grown hg10 hb9.size (fun j hj => by cases hj; exact hB))
          have HO10 := Aside0.mk ho10
          have HRUN9 := Aside0.mk hrun9
          have HRUN10 := Aside0.mk hrun10
          have HTT := Aside0.mk (And.intro ht0 (And.intro ht1 (And.intro ht2 hl9)))
          have HSS := Aside0.mk (And.intro hs0 (And.intro hs1 (And.intro hs2 hl1)))
          clear ho10 hg10 hg9 hrun9 hrun10 ht0 ht1 ht2 hl9 hs0 hs1 hs2 hl1 hE9 hb9 hat hkk hoB hbB hnb
          refine start_ (n := 13) (S := fun w' => w'.cell? ⟨wr.heap.size, 0, none⟩ = some (.int .i64 p.f0) ∧ w'.cell? ⟨wr.heap.size, 1, none⟩ = some (.int .i64 p.f1) ∧ w'.cell? ⟨wr.heap.size, 2, none⟩ = some (.int .i64 p.f2) ∧ (Instr.lookup 50 (.map (some w1.heap.size)) (.agg #[.int .i64 p.f1, .int .i64 p.f0]) false).run Try.prog w' = .ok (.int .i64 c) w') (ds := [12]) #[false, false, false, false, false, false, false, false, false, false, false, false, false] (by kernel_rfl) rfl rfl HSS.out (fun hHeld => ?_)
          refine pure_ (i := 0) (N := some 38) (v := ?_) (a' := ?_) #[true, false, false, false, false, false, false, false, false, false, false, false, false] rfl rfl (by kernel_rfl) (fun _ _ _ h => h) (Or.inl ⟨by rfl, ?_⟩) ?_ ?_
          rotate_left
          · intro w'
            go_simp
            with_reducible rfl
          rotate_left
          · simp only [Act.put, List.setIfInBounds_toArray, List.set_cons_zero, List.set_cons_succ, i64_w, i32_w]
            rfl
          refine pure_ (i := 1) (N := some 39) (v := ?_) (a' := ?_) #[true, true, false, false, false, false, false, false, false, false, false, false, false] rfl rfl (by kernel_rfl) (fun _ _ _ h => h) (Or.inl ⟨by rfl, ?_⟩) ?_ ?_
          rotate_left
          · intro w'
            go_simp
            with_reducible rfl
          rotate_left
          · simp only [Act.put, List.setIfInBounds_toArray, List.set_cons_zero, List.set_cons_succ, i64_w, i32_w]
            rfl
          refine pure_ (i := 3) (N := some 41) (v := ?_) (a' := ?_) #[true, true, false, true, false, false, false, false, false, false, false, false, false] rfl rfl (by kernel_rfl) (fun _ _ _ h => h) (Or.inl ⟨by rfl, ?_⟩) ?_ ?_
          rotate_left
          · intro w'
            go_simp
            with_reducible rfl
          rotate_left
          · simp only [Act.put, List.setIfInBounds_toArray, List.set_cons_zero, List.set_cons_succ, i64_w, i32_w]
            rfl
          refine pure_ (i := 7) (N := some 45) (v := ?_) (a' := ?_) #[true, true, false, true, false, false, false, true, false, false, false, false, false] rfl rfl (by kernel_rfl) (fun _ _ _ h => h) (Or.inl ⟨by rfl, ?_⟩) ?_ ?_
          rotate_left
          · intro w'
            go_simp
            with_reducible rfl
          rotate_left
          · simp only [Act.put, List.setIfInBounds_toArray, List.set_cons_zero, List.set_cons_succ, i64_w, i32_w]
            rfl
          refine take_ (i := 2) (N := some 40) (v := ?_) (a' := ?_) #[true, true, true, true, false, false, false, true, false, false, false, false, false] rfl rfl (by kernel_rfl) (fun _ _ _ h => h) (Or.inl ⟨by rfl, ?_⟩) hHeld ?_ ?_
          rotate_left
          · rintro w' ⟨s0, s1, s2, s3⟩
            go_simp
            with_reducible rfl
          rotate_left
          · simp only [Act.put, List.setIfInBounds_toArray, List.set_cons_zero, List.set_cons_succ, i64_w, i32_w]
            rfl
          refine take_ (i := 4) (N := some 42) (v := ?_) (a' := ?_) #[true, true, true, true, true, false, false, true, false, false, false, false, false] rfl rfl (by kernel_rfl) (fun _ _ _ h => h) (Or.inl ⟨by rfl, ?_⟩) hHeld ?_ ?_
          rotate_left
          · rintro w' ⟨s0, s1, s2, s3⟩
            go_simp
            with_reducible rfl
          rotate_left
          · simp only [Act.put, List.setIfInBounds_toArray, List.set_cons_zero, List.set_cons_succ, i64_w, i32_w]
            rfl
          refine take_ (i := 8) (N := some 46) (v := ?_) (a' := ?_) #[true, true, true, true, true, false, false, true, true, false, false, false, false] rfl rfl (by kernel_rfl) (fun _ _ _ h => h) (Or.inl ⟨by rfl, ?_⟩) hHeld ?_ ?_
          rotate_left
          · rintro w' ⟨s0, s1, s2, s3⟩
            go_simp
            with_reducible rfl
          rotate_left
          · simp only [Act.put, List.setIfInBounds_toArray, List.set_cons_zero, List.set_cons_succ, i64_w, i32_w]
            rfl
          refine pure_ (i := 5) (N := some 43) (v := ?_) (a' := ?_) #[true, true, true, true, true, true, false, true, true, false, false, false, false] rfl rfl (by kernel_rfl) (fun _ _ _ h => h) (Or.inl ⟨by rfl, ?_⟩) ?_ ?_
          rotate_left
          · intro w'
            go_simp
            with_reducible rfl
          rotate_left
          · simp only [Act.put, List.setIfInBounds_toArray, List.set_cons_zero, List.set_cons_succ, i64_w, i32_w]
            rfl
          refine take_ (i := 6) (N := some 44) (v := .int .i64 c) (a' := ?_) #[true, true, true, true, true, true, true, true, true, false, false, false, false] rfl rfl (by kernel_rfl) (fun _ _ _ h => h) (Or.inl ⟨by rfl, ?_⟩) hHeld ?_ ?_
          · rintro w' ⟨s0, s1, s2, s3⟩
            exact impl_NetPosts.look_run (mv := .map (some w1.heap.size)) (key := (.agg #[.int .i64 p.f1, .int .i64 p.f0])) rfl rfl rfl s3
          rotate_left
          · simp only [Act.put, List.setIfInBounds_toArray, List.set_cons_zero, List.set_cons_succ, i64_w, i32_w]
            rfl
          refine pure_ (i := 9) (N := some 47) (v := ?_) (a' := ?_) #[true, true, true, true, true, true, true, true, true, true, false, false, false] rfl rfl (by kernel_rfl) (fun _ _ _ h => h) (Or.inl ⟨by rfl, ?_⟩) ?_ ?_
          rotate_left
          · intro w'
            go_simp
            with_reducible rfl
          rotate_left
          · simp only [Act.put, List.setIfInBounds_toArray, List.set_cons_zero, List.set_cons_succ, i64_w, i32_w]
            rfl
          refine one_ (i := 10) (N := some 48) #[true, true, true, true, true, true, true, true, true, true, true, false, false] rfl rfl (by kernel_rfl) (by decide) (fun K hK => ?_)
          refine value_ (w1 := w9) (by rfl) rfl (impl_NetPosts.entry_run (mv := .map (some w1.heap.size)) (key := (.agg #[.int .i64 p.f1, .int .i64 p.f0])) rfl rfl rfl HRUN9.out) ?_
          refine hK.out _ _ HTT.out (fun hHeld => ?_)
          clear hK K
          refine norm_ (a' := ?_) ?_ ?_
          rotate_left
          · show Act.put _ (some 48) _ = _
            simp only [Act.put, List.setIfInBounds_toArray, List.set_cons_zero, List.set_cons_succ, i64_w, i32_w]
            rfl
          refine pure_ (i := 11) (N := some 49) (v := ?_) (a' := ?_) #[true, true, true, true, true, true, true, true, true, true, true, true, false] rfl rfl (by kernel_rfl) (fun _ _ _ h => h) (Or.inl ⟨by rfl, ?_⟩) ?_ ?_
          rotate_left
          · intro w'
            go_simp
            with_reducible rfl
          rotate_left
          · simp only [Act.put, List.setIfInBounds_toArray, List.set_cons_zero, List.set_cons_succ, i64_w, i32_w]
            rfl
          refine last_ (i := 12) (N := none) #[true, true, true, true, true, true, true, true, true, true, true, true, true] rfl rfl (by kernel_rfl) (by decide) (fun K hK => ?_)
          refine skip_ (w1 := w10) (by rfl) rfl (impl_NetPosts.store_run (mv := .map (some w1.heap.size)) (sv := goInt st) (xv := .int .i64 (wrap64 (c - p.f2))) rfl rfl rfl rfl HRUN10.out) ?_
          refine hK.out _ _ ?_
          clear hK K
          refine done_ (by kernel_rfl) ?_
          try go_wp2
          go_roundw
          case rel =>
            refine ⟨n + 1, by omega, by go_num, _, HO10.out, ?_, hB, HB10.out⟩
            rw [HTK.out, HCN.out]
            exact impl_NetPosts.Holds.down HD.out HOW.out.isMap p (by have := HP.out; omega) HXY.out (by have := HP.out; omega)
          case measure => simp [intOf]; omega
      · obtain rfl : n = l0.length := by omega
        rw [List.take_length] at hD
        have HD := Aside0.mk hD
        obtain ⟨V, hV⟩ : ∃ V, V = impl_NetPosts.outer l0 5 [] := ⟨_, rfl⟩
        have hvv := HV.out
        unfold impl_NetPosts.v at hvv
        rw [← hV] at hvv
        have HVV := Aside0.mk hvv
        have HVE := Aside0.mk hV.symm
        have HOW := Aside0.mk hown
        have HBR := Aside0.mk hbr
        clear hD hV hvv hown hbr HV
        go_wp2_with ((with_reducible refine gate_dst (N := 51) rfl ?_); refine Kd.R_lit k27 w.heap.size 27 ?hg (N := 51) ?hd (xs := ([] : List (S27))) (inner := []) (ok := fun k_ => k_ ≠ w1.heap.size) (okp := fun _ => False) ?hr ?hp (fun _ hk => hk.elim) (Nat.ne_of_gt HOW.out.lt) HBR.out HBR.out.size (by simp) ?_; (case hd => rfl); (case hg => rfl); (case hr => first | (go_simp; done) | (go_simp; rfl)); (case hp => exact (Reps.none _ _)); intro v7 w2 ho3 hb3 hg3 hnew; have HR2 := Aside0.mk ho3; have HB2 := Aside0.mk hb3; have HOW2 := Aside0.mk (HOW.out.kept hg3 (by simp)); clear ho3 hb3 hg3 hnew)
        go_loopg [7, 52] 5 (fun gg v7 v52 wr => impl_NetPosts.RelO l0 w w1.heap.size D V gg v7 v52 wr)
        case atStart => exact ⟨5, [], Nat.le_refl _, Nat.le_refl _, rfl, HVE.out, by simp, HR2.out, HOW2.out, HB2.out⟩
        case round =>
          clear HR2 HB2 HOW2 HOW HBR
          obtain ⟨d, out, hgg, hd5, rfl, hVO, hln, hR, hW, hB3⟩ := hrel
          have HGG := Aside0.mk hgg
          have HVO := Aside0.mk hVO
          have HLN := Aside0.mk hln
          have HR3 := Aside0.mk hR
          have HW3 := Aside0.mk hW
          have HB3 := Aside0.mk hB3
          clear hgg hVO hln hR hW hB3
          cases d with
          | zero =>
            have hvd : decide ((5 - ((0 : Nat) : Int)) < 5) = false := by decide
            have hv0 := HVV.out
            rw [← HVO.out] at hv0
            obtain ⟨rfl, rfl⟩ : out = r1 ∧ true = r2 := by simpa [impl_NetPosts.outer] using hv0
            go_wp2
            go_ret2
            exact ⟨_, rfl, Kd.R_mono HR3.out (fun _ _ => trivial), HB3.out⟩
          | succ d =>
            have hvd : decide ((5 - ((d + 1 : Nat) : Int)) < 5) = true := decide_eq_true (by omega)
            have hsm : 5 - ((d + 1 : Nat) : Int) = 4 - (d : Int) := by omega
            rw [hsm] at hvd ⊢
            clear hsm
            have HDD := Aside0.mk hd5
            go_wp2
            go_loopg [7, 9] (d + 1) (fun gg v7 v9 wr => impl_NetPosts.RelI l0 w w1.heap.size D V d gg v7 v9 wr)
            case atStart =>
              refine ⟨d + 1, out, Nat.le_refl _, Nat.le_refl _, by go_num, ?_, by have := HLN.out; omega, HR3.out, HW3.out, HB3.out⟩
              rw [← HVO.out]
              rfl
            case round =>
              clear HVO HLN HR3 HW3 HB3
              obtain ⟨m, out, hgg2, hmd, rfl, hVI, hln, hR, hW, hB3⟩ := hrel
              have HGG2 := Aside0.mk hgg2
              have HVI := Aside0.mk hVI
              have HLN := Aside0.mk hln
              have HRI := Aside0.mk hR
              have HOWI := Aside0.mk hW
              have HBI := Aside0.mk hB3
              have HMD := Aside0.mk hmd
              clear hgg2 hVI hln hR hW hB3
              cases m with
              | zero =>
                have hvd2 : decide ((6 - ((0 : Nat) : Int)) ≤ 5) = false := by decide
                go_wp2
                go_roundg d
                case measure => have := HGG.out; omega
                case rel =>
                  refine ⟨d, out, Nat.le_refl _, by omega, by go_num, ?_, by have := HLN.out; omega, HRI.out, HOWI.out, HBI.out⟩
                  rw [← HVI.out]
                  rfl
              | succ m =>
                have hvd2 : decide ((6 - ((m + 1 : Nat) : Int)) ≤ 5) = true := decide_eq_true (by omega)
                have hsm : 6 - ((m + 1 : Nat) : Int) = 5 - (m : Int) := by omega
                rw [hsm] at hvd2 ⊢
                clear hsm
                have HK := Aside0.mk (impl_NetPosts.keyIs (impl_NetPosts.wf5 (show 0 ≤ 4 - (d : Int) by omega) (by omega)) (impl_NetPosts.wf5 (show 0 ≤ 5 - (m : Int) by omega) (by omega)))
                obtain ⟨c, hce⟩ : ∃ c, c = impl_NetPosts.net l0 (4 - (d : Int)) (5 - (m : Int)) := ⟨_, rfl⟩
                have hat := HD.out (4 - (d : Int)) (5 - (m : Int)) ⟨by omega, by omega, by omega⟩
                rw [← hce] at hat
                have HAT := Aside0.mk hat
                have HCE := Aside0.mk hce
                have HAM := Aside0.mk (impl_NetPosts.amount c)
                clear hat hce
                by_cases hfit : -1000000000 ≤ c ∧ c ≤ 1000000000
                · have hfd : decide (-1000000000 ≤ c ∧ c ≤ 1000000000) = true := decide_eq_true hfit
                  have HFT := Aside0.mk (show impl_NetPosts.fits l0 (4 - (d : Int)) (5 - (m : Int)) = true by unfold impl_NetPosts.fits; rw [← HCE.out]; exact hfd)
                  rw [hfd] at HAM
                  by_cases hc : c > 0
                  · have hp1 : decide (c > 0) = true := decide_eq_true hc
                    have hp2 : decide (c < 0) = false := decide_eq_false (by omega)
                    go_wp2_with (first | (at_lookup; refine wpList_lookup_own_int _ rfl _ _ 50 rfl 52 3 .i64 impl_NetPosts.lawK Try.underlying50 Try.underlying3 (impl_NetPosts.zero3 _) w1.heap.size l0.length _ rfl HOWI.out _ _ rfl HK.out ?_; intro c2 hat2 hwc2; have hc2 : c2 = c := (by have := hat2.symm.trans HAT.out; simpa using this); clear hat2 hwc2; subst hc2) | (go_at_call 34; refine (HAM.out _).mono ?_; rintro e wz ⟨rfl, nz, rfl⟩; have HRJ := Aside0.mk (Kd.R_drewN HRI.out nz); have HBJ := Aside0.mk (pw_below_drewN HBI.out nz); have HOWJ := Aside0.mk (impl_NetPosts.own_drewN HOWI.out nz)) | ((with_reducible refine gate_builtin (b := .append) (xs := #[.tmp 71, .tmp 76]) rfl ?_); at_builtin; refine Kd.R_append k27 (w0 := w) w.heap.size rfl (.tmp 71) (.tmp 76) 23 27 (.agg #[(.int .i64 0), (.int .i64 0), (.int .i64 0)]) 24 rfl Try.underlying23 impl_NetPosts.infoP rfl (by decide) (by omega) _ out (⟨4 - (d : Int), 5 - (m : Int), c2⟩ : S27) [.int .i64 (4 - (d : Int)), .int .i64 (5 - (m : Int)), .int .i64 c2] (fun k_ => k_ ≠ w1.heap.size) (fun _ => False) rfl rfl (k27_mkM _ _ _ (⟨4 - (d : Int), 5 - (m : Int), c2⟩ : S27)) (fun _ hk => hk.elim) (fun k_ hk => Nat.ne_of_gt (Nat.lt_of_lt_of_le HOWJ.out.lt hk)) HRJ.out HBJ.out HBJ.out.size (by have := HLN.out; omega) ?_; intro v9 w9 ho hbb hgr hat; have HO9 := Aside0.mk ho; have HW9 := Aside0.mk (HOWJ.out.kept hgr (Kd.R_away HRJ.out (fun _ hk => hk))); have HB9 := Aside0.mk hbb; clear ho hbb hgr hat))
                    go_roundg m
                    case measure => have := HGG2.out; omega
                    case rel =>
                      refine ⟨m, (out ++ [⟨4 - (d : Int), 5 - (m : Int), c2⟩] : List S27), Nat.le_refl _, by have := HMD.out; omega, by go_num, ?_, ?_, ?_, ?_, ?_⟩
                      · rw [← HVI.out]
                        have hpost : impl_NetPosts.post l0 (4 - (d : Int)) (5 - (m : Int)) = [⟨4 - (d : Int), 5 - (m : Int), c2⟩] := by
                          unfold impl_NetPosts.post
                          rw [← HCE.out]
                          rw [if_pos (by omega), if_neg (by omega)]; rfl
                        rw [impl_NetPosts.inner_succ, if_pos HFT.out, hpost]
                      · have := HLN.out; rw [List.length_append, List.length_singleton]; omega
                      · first | exact HO9.out | exact HRI.out
                      · first | exact HW9.out | exact HOWI.out.kept (World.grownBy.refl _ _) (by simp)
                      · first | exact HB9.out | exact HBI.out
                  · have hp1 : decide (c > 0) = false := decide_eq_false hc
                    by_cases hc2 : c < 0
                    · have hp2 : decide (c < 0) = true := decide_eq_true hc2
                      go_wp2_with (first | (at_lookup; refine wpList_lookup_own_int _ rfl _ _ 50 rfl 52 3 .i64 impl_NetPosts.lawK Try.underlying50 Try.underlying3 (impl_NetPosts.zero3 _) w1.heap.size l0.length _ rfl HOWI.out _ _ rfl HK.out ?_; intro c2 hat2 hwc2; have hc2 : c2 = c := (by have := hat2.symm.trans HAT.out; simpa using this); clear hat2 hwc2; subst hc2) | (go_at_call 34; refine (HAM.out _).mono ?_; rintro e wz ⟨rfl, nz, rfl⟩; have HRJ := Aside0.mk (Kd.R_drewN HRI.out nz); have HBJ := Aside0.mk (pw_below_drewN HBI.out nz); have HOWJ := Aside0.mk (impl_NetPosts.own_drewN HOWI.out nz)) | ((with_reducible refine gate_builtin (b := .append) (xs := #[.tmp 80, .tmp 86]) rfl ?_); at_builtin; refine Kd.R_append k27 (w0 := w) w.heap.size rfl (.tmp 80) (.tmp 86) 23 27 (.agg #[(.int .i64 0), (.int .i64 0), (.int .i64 0)]) 24 rfl Try.underlying23 impl_NetPosts.infoP rfl (by decide) (by omega) _ out (⟨5 - (m : Int), 4 - (d : Int), -c2⟩ : S27) [.int .i64 (5 - (m : Int)), .int .i64 (4 - (d : Int)), .int .i64 (-c2)] (fun k_ => k_ ≠ w1.heap.size) (fun _ => False) rfl rfl (k27_mkM _ _ _ (⟨5 - (m : Int), 4 - (d : Int), -c2⟩ : S27)) (fun _ hk => hk.elim) (fun k_ hk => Nat.ne_of_gt (Nat.lt_of_lt_of_le HOWJ.out.lt hk)) HRJ.out HBJ.out HBJ.out.size (by have := HLN.out; omega) ?_; intro v9 w9 ho hbb hgr hat; have HO9 := Aside0.mk ho; have HW9 := Aside0.mk (HOWJ.out.kept hgr (Kd.R_away HRJ.out (fun _ hk => hk))); have HB9 := Aside0.mk hbb; clear ho hbb hgr hat))
                      go_roundg m
                      case measure => have := HGG2.out; omega
                      case rel =>
                        refine ⟨m, (out ++ [⟨5 - (m : Int), 4 - (d : Int), -c2⟩] : List S27), Nat.le_refl _, by have := HMD.out; omega, by go_num, ?_, ?_, ?_, ?_, ?_⟩
                        · rw [← HVI.out]
                          have hpost : impl_NetPosts.post l0 (4 - (d : Int)) (5 - (m : Int)) = [⟨5 - (m : Int), 4 - (d : Int), -c2⟩] := by
                            unfold impl_NetPosts.post
                            rw [← HCE.out]
                            rw [if_neg (by omega), if_pos (by omega)]; rfl
                          rw [impl_NetPosts.inner_succ, if_pos HFT.out, hpost]
                        · have := HLN.out; rw [List.length_append, List.length_singleton]; omega
                        · first | exact HO9.out | exact HRI.out
                        · first | exact HW9.out | exact HOWI.out.kept (World.grownBy.refl _ _) (by simp)
                        · first | exact HB9.out | exact HBI.out
                    · have hp2 : decide (c < 0) = false := decide_eq_false hc2
                      go_wp2_with (first | (at_lookup; refine wpList_lookup_own_int _ rfl _ _ 50 rfl 52 3 .i64 impl_NetPosts.lawK Try.underlying50 Try.underlying3 (impl_NetPosts.zero3 _) w1.heap.size l0.length _ rfl HOWI.out _ _ rfl HK.out ?_; intro c2 hat2 hwc2; have hc2 : c2 = c := (by have := hat2.symm.trans HAT.out; simpa using this); clear hat2 hwc2; subst hc2) | (go_at_call 34; refine (HAM.out _).mono ?_; rintro e wz ⟨rfl, nz, rfl⟩; have HRJ := Aside0.mk (Kd.R_drewN HRI.out nz); have HBJ := Aside0.mk (pw_below_drewN HBI.out nz); have HOWJ := Aside0.mk (impl_NetPosts.own_drewN HOWI.out nz)))
                      go_roundg m
                      case measure => have := HGG2.out; omega
                      case rel =>
                        refine ⟨m, out, Nat.le_refl _, by have := HMD.out; omega, by go_num, ?_, ?_, ?_, ?_, ?_⟩
                        · rw [← HVI.out]
                          have hpost : impl_NetPosts.post l0 (4 - (d : Int)) (5 - (m : Int)) = [] := by
                            unfold impl_NetPosts.post
                            rw [← HCE.out]
                            rw [if_neg (by omega), if_neg (by omega)]; rfl
                          rw [impl_NetPosts.inner_succ, if_pos HFT.out, hpost]
                          rw [List.append_nil]
                        · have := HLN.out; omega
                        · first | exact HRJ.out | exact HRI.out
                        · first | exact HOWJ.out | exact HOWI.out.kept (World.grownBy.refl _ _) (by simp)
                        · first | exact HBJ.out | exact HBI.out
                · have hfd : decide (-1000000000 ≤ c ∧ c ≤ 1000000000) = false := decide_eq_false hfit
                  rw [hfd] at HAM
                  go_wp2_with (first | (at_lookup; refine wpList_lookup_own_int _ rfl _ _ 50 rfl 52 3 .i64 impl_NetPosts.lawK Try.underlying50 Try.underlying3 (impl_NetPosts.zero3 _) w1.heap.size l0.length _ rfl HOWI.out _ _ rfl HK.out ?_; intro c2 hat2 hwc2; have hc2 : c2 = c := (by have := hat2.symm.trans HAT.out; simpa using this); clear hat2 hwc2; subst hc2) | (go_at_call 34; refine (HAM.out _).mono ?_; rintro e wz ⟨rfl, nz, rfl⟩; have HRJ := Aside0.mk (Kd.R_drewN HRI.out nz); have HBJ := Aside0.mk (pw_below_drewN HBI.out nz); have HOWJ := Aside0.mk (impl_NetPosts.own_drewN HOWI.out nz)))
                  go_ret2
                  have hv0 := HVV.out
                  have hff : impl_NetPosts.fits l0 (4 - (d : Int)) (5 - (m : Int)) = false := by unfold impl_NetPosts.fits; rw [← HCE.out]; exact hfd
                  rw [← HVI.out] at hv0
                  unfold impl_NetPosts.inner at hv0
                  rw [if_neg (by rw [hff]; decide)] at hv0
                  obtain ⟨rfl, rfl⟩ : ([] : List S27) = r1 ∧ false = r2 := by simpa using hv0
                  exact ⟨_, rfl, Kd.R_nil _ _ _ _ _, pw_below_drewN HBI.out _⟩
end


/-! ### spec_inRange: function 37 -/
def spec_inRange.f (a0 : Int) (a1 : Int) (a2 : Int) : Option (Bool) := if a1 ≤ a0 then (some (decide (a0 ≤ a2))) else (some false)
set_option maxHeartbeats 8000000 in
set_option maxRecDepth 100000 in
theorem spec_inRange.calls (a0 : Int) (a1 : Int) (a2 : Int) (r : Bool) (w : World) (h : spec_inRange.f a0 a1 a2 = some r) :
    Calls Try.prog 37 #[.int .i64 a0, .int .i64 a1, .int .i64 a2] w fun e w' => e = .returned (.bool r) ∧ Drawn0 w w' := by
  have H : (if a1 ≤ a0 then (some (decide (a0 ≤ a2))) else (some false)) = some r := h
  clear h
  by_cases c4 : a1 ≤ a0
  · rw [if_pos c4] at H
    have c4b0 : decide (a1 ≤ a0) = true := decide_eq_true c4
    clear c4
    obtain rfl := Option.some.inj H
    go_enter Try.func37, Try.ntmps37
    go_wp2
    go_ret
    exact ⟨by first | rfl | (simp; done) | (simp [*]; done), by repeat (first | exact Drawn0.refl _ | apply Drawn0.step)⟩
  · rw [if_neg c4] at H
    have c4b0 : decide (a1 ≤ a0) = false := decide_eq_false c4
    clear c4
    obtain rfl := Option.some.inj H
    go_enter Try.func37, Try.ntmps37
    go_wp2
    go_ret
    exact ⟨by first | rfl | (simp; done) | (simp [*]; done), by repeat (first | exact Drawn0.refl _ | apply Drawn0.step)⟩

end Go.Proofs.Ytmccplnkagfecaa.PFnExactNetPosts
