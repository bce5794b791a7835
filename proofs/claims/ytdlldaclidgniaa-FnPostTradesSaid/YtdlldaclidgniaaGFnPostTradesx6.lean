/- The functions that FnPostTrades reaches, each with a proof that the call does what it says; a part of that statement's proof. Conditions: none. -/
import Derived.Test.YtdlldaclidgniaaGFnPostTradesx0
import Derived.Test.YtdlldaclidgniaaGFnPostTradesx3
namespace Go.Proofs.Ytdlldaclidgniaa.PFnPostTrades
open Go.RowKit Go.Proofs.YtdlldaclidgniaaW.PrintWords Go.Proofs.YtdlldaclidgniaaW.PrintLast Go.Proofs.YtdlldaclidgniaaW.PrintMore
attribute [local go_sem] max2_int min2_int max_two min_two max_three min_three max_four min_four   -- for this text's walks alone
set_option linter.unusedVariables false
set_option linter.unusedSimpArgs false

/-! ### impl_queueOf: function 17 -/
def impl_queueOf.okL (p : S31) : Bool := decide ((-9999 ≤ p.f0 ∧ p.f0 ≤ 9999) ∧ p.f0 ≠ 0 ∧ 1 ≤ p.f1 ∧ p.f1 ≤ 50000)
/-- A trade of m bonds at pr closes lots of the other sign: the lots, what is left of it, the gain. -/
def impl_queueOf.close (pr : Int) : List S31 → Int → Int → List S31 × Int × Int
  | [], m, g => ([], m, g)
  | p :: ls, m, g =>
    if m = 0 ∨ (0 < p.f0 ↔ 0 < m) then (p :: ls, m, g)
    else if (0 < m ∧ 0 ≤ m + p.f0) ∨ (m < 0 ∧ m + p.f0 ≤ 0) then impl_queueOf.close pr ls (m + p.f0) (g + p.f0 * (pr - p.f1))
    else (⟨p.f0 + m, p.f1⟩ :: ls, 0, g - m * (pr - p.f1))
/-- One trade more. -/
def impl_queueOf.take (q : List S31 × Int) (t : S41) : List S31 × Int :=
  (if (impl_queueOf.close t.f2 q.1 t.f1 q.2).2.1 = 0 then (impl_queueOf.close t.f2 q.1 t.f1 q.2).1 else (impl_queueOf.close t.f2 q.1 t.f1 q.2).1 ++ [⟨(impl_queueOf.close t.f2 q.1 t.f1 q.2).2.1, t.f2⟩], (impl_queueOf.close t.f2 q.1 t.f1 q.2).2.2)
def impl_queueOf.queue (l : List S41) : List S31 × Int := l.foldl impl_queueOf.take ([], 0)
theorem impl_queueOf.okL_of {p : S31} (h : impl_queueOf.okL p = true) : (-9999 ≤ p.f0 ∧ p.f0 ≤ 9999) ∧ p.f0 ≠ 0 ∧ 1 ≤ p.f1 ∧ p.f1 ≤ 50000 := of_decide_eq_true h
theorem impl_queueOf.prod_bd {a d : Int} (hd : -49999 ≤ d ∧ d ≤ 49999) : -(49999 * (a.natAbs : Int)) ≤ a * d ∧ a * d ≤ 49999 * (a.natAbs : Int) := by
  have h1 : (a * d).natAbs = a.natAbs * d.natAbs := Int.natAbs_mul a d
  have h2 : a.natAbs * d.natAbs ≤ a.natAbs * 49999 := Nat.mul_le_mul_left _ (by omega)
  omega
/-- What closing keeps. -/
theorem impl_queueOf.close_ok (pr : Int) (hpr : 1 ≤ pr ∧ pr ≤ 50000) : ∀ (ls : List S31) (m g : Int), (∀ p ∈ ls, impl_queueOf.okL p = true) → (-9999 ≤ m ∧ m ≤ 9999) →
    (∀ p ∈ (impl_queueOf.close pr ls m g).1, impl_queueOf.okL p = true) ∧ (-9999 ≤ (impl_queueOf.close pr ls m g).2.1 ∧ (impl_queueOf.close pr ls m g).2.1 ≤ 9999) ∧ (impl_queueOf.close pr ls m g).1.length ≤ ls.length ∧
    g - 49999 * (m.natAbs : Int) ≤ (impl_queueOf.close pr ls m g).2.2 ∧ (impl_queueOf.close pr ls m g).2.2 ≤ g + 49999 * (m.natAbs : Int)
  | [], m, g, h, hm => by
    simp only [impl_queueOf.close]
    exact ⟨h, hm, Nat.le_refl _, by omega, by omega⟩
  | p :: ls, m, g, h, hm => by
    have hp := impl_queueOf.okL_of (h p (List.mem_cons_self))
    unfold impl_queueOf.close
    by_cases c1 : m = 0 ∨ (0 < p.f0 ↔ 0 < m)
    · rw [if_pos c1]
      exact ⟨h, hm, Nat.le_refl _, by show _ ≤ g; omega, by show g ≤ _; omega⟩
    · rw [if_neg c1]
      by_cases c2 : (0 < m ∧ 0 ≤ m + p.f0) ∨ (m < 0 ∧ m + p.f0 ≤ 0)
      · rw [if_pos c2]
        have ih := impl_queueOf.close_ok pr hpr ls (m + p.f0) (g + p.f0 * (pr - p.f1)) (fun q hq => h q (List.mem_cons_of_mem _ hq)) (by omega)
        have hb := impl_queueOf.prod_bd (a := p.f0) (d := pr - p.f1) (by omega)
        refine ⟨ih.1, ih.2.1, by have := ih.2.2.1; simp; omega, ?_, ?_⟩
        · have := ih.2.2.2.1
          omega
        · have := ih.2.2.2.2
          omega
      · rw [if_neg c2]
        have hb := impl_queueOf.prod_bd (a := m) (d := pr - p.f1) (by omega)
        refine ⟨?_, by simp, by simp, by show _ ≤ g - m * (pr - p.f1); omega, by show g - m * (pr - p.f1) ≤ _; omega⟩
        intro q hq
        rcases List.mem_cons.1 hq with rfl | hq
        · exact decide_eq_true ⟨by simp only; omega, by simp only; omega, hp.2.2⟩
        · exact h q (List.mem_cons_of_mem _ hq)
theorem impl_queueOf.take_ok {q : List S31 × Int} {t : S41} (hq : ∀ p ∈ q.1, impl_queueOf.okL p = true) (h1 : -9999 ≤ t.f1 ∧ t.f1 ≤ 9999) (h2 : 1 ≤ t.f2 ∧ t.f2 ≤ 50000) :
    (∀ p ∈ (impl_queueOf.take q t).1, impl_queueOf.okL p = true) ∧ (impl_queueOf.take q t).1.length ≤ q.1.length + 1 ∧ q.2 - 499940001 ≤ (impl_queueOf.take q t).2 ∧ (impl_queueOf.take q t).2 ≤ q.2 + 499940001 := by
  have h := impl_queueOf.close_ok t.f2 h2 q.1 t.f1 q.2 hq h1
  unfold impl_queueOf.take
  refine ⟨?_, ?_, ?_, ?_⟩
  · by_cases c : (impl_queueOf.close t.f2 q.1 t.f1 q.2).2.1 = 0
    · rw [if_pos c]
      exact h.1
    · rw [if_neg c]
      intro p hp
      rcases List.mem_append.1 hp with hp | hp
      · exact h.1 p hp
      · rw [List.mem_singleton.1 hp]
        exact decide_eq_true ⟨h.2.1, c, h2⟩
  · by_cases c : (impl_queueOf.close t.f2 q.1 t.f1 q.2).2.1 = 0
    · rw [if_pos c]
      have := h.2.2.1
      simp only; omega
    · rw [if_neg c]
      have := h.2.2.1
      simp only [List.length_append, List.length_singleton]; omega
  · have := h.2.2.2.1
    simp only; omega
  · have := h.2.2.2.2
    simp only; omega
theorem impl_queueOf.queue_ok (l : List S41) (h : ∀ t ∈ l, (-9999 ≤ t.f1 ∧ t.f1 ≤ 9999) ∧ 1 ≤ t.f2 ∧ t.f2 ≤ 50000) : ∀ (q : List S31 × Int), (∀ p ∈ q.1, impl_queueOf.okL p = true) →
    (∀ p ∈ (l.foldl impl_queueOf.take q).1, impl_queueOf.okL p = true) ∧ (l.foldl impl_queueOf.take q).1.length ≤ q.1.length + l.length ∧ q.2 - 499940001 * (l.length : Int) ≤ (l.foldl impl_queueOf.take q).2 ∧ (l.foldl impl_queueOf.take q).2 ≤ q.2 + 499940001 * (l.length : Int) := by
  induction l with
  | nil => exact fun q hq => ⟨hq, by simp, by simp, by simp⟩
  | cons t l ih =>
    intro q hq
    have ht := h t (List.mem_cons_self)
    have h1 := impl_queueOf.take_ok (q := q) (t := t) hq ht.1 ht.2
    have h2 := ih (fun x hx => h x (List.mem_cons_of_mem _ hx)) (impl_queueOf.take q t) h1.1
    simp only [List.foldl_cons, List.length_cons]
    refine ⟨h2.1, by omega, by omega, by omega⟩
--WALKS--
theorem impl_queueOf.infoL : (Try.prog.info? 31).map (fun i => (i.zero, i.size, i.bytes)) = some (some (.agg #[(.int .i64 0), (.int .i64 0)]), 2, 16) := by kernel_rfl
def impl_queueOf.St (w : World) (B g : Nat) (q : List S31 × Int) : Prop := ∃ v, w.heap[g]? = some (.cells #[v, .int .i64 q.2] 46 (0, 0)) ∧ Kd.Q k31 31 w B (fun _ => True) v q.1
theorem impl_queueOf.St.drewN {w : World} {B g : Nat} {q : List S31 × Int} (h : impl_queueOf.St w B g q) (n : Nat) : impl_queueOf.St (w.drewN n) B g q := by
  obtain ⟨v, h1, h2⟩ := h
  exact ⟨v, h1, Kd.Q_drewN h2 n⟩
theorem impl_queueOf.St.alloc {w : World} {B g : Nat} {q : List S31 × Int} (h : impl_queueOf.St w B g q) (o : Obj) : impl_queueOf.St (w.alloc o) B g q := by
  obtain ⟨v, h1, h2⟩ := h
  exact ⟨v, (Below.heap_alloc w o g (blk_lt h1)).trans h1, Kd.Q_alloc h2 o⟩
theorem impl_queueOf.notE : ∀ q, q ∈ 31 :: (k31).E → q ≠ 46 := by decide
theorem impl_queueOf.St.put {w : World} {B g : Nat} {u v : Value} {x : Int} {ls : List S31} (h : w.heap[g]? = some (.cells #[u, .int .i64 x] 46 (0, 0))) (hQ : Kd.Q k31 31 w B (fun _ => True) v ls) : impl_queueOf.St (w.setCell ⟨g, 0, none⟩ v) B g (ls, x) :=
  ⟨v, blk_set h 0 v, Kd.Q_set hQ h impl_queueOf.notE 0 v⟩
theorem impl_queueOf.St.gain {w : World} {B g : Nat} {v : Value} {x y : Int} {ls : List S31} (h : w.heap[g]? = some (.cells #[v, .int .i64 x] 46 (0, 0))) (hQ : Kd.Q k31 31 w B (fun _ => True) v ls) : impl_queueOf.St (w.setCell ⟨g, 1, none⟩ (.int .i64 y)) B g (ls, y) :=
  ⟨v, blk_set h 1 _, Kd.Q_set hQ h impl_queueOf.notE 1 _⟩
theorem impl_queueOf.head {w : World} {B : Nat} {v : Value} {p : S31} {l : List S31} (hQ : Kd.Q k31 31 w B (fun _ => True) v (p :: l)) :
    ∃ gl o n cap, v = .slice (some ⟨gl, o, none⟩) n cap ∧ n = l.length + 1 ∧ B ≤ gl ∧ n ≤ cap ∧ (∃ cells, w.heap[gl]? = some (.cells cells 31 (0, 0))) ∧ w.cell? ⟨gl, o, none⟩ = some (.int .i64 p.f0) ∧ w.cell? ⟨gl, o + 1, none⟩ = some (.int .i64 p.f1) ∧ w.frozen? ⟨gl, o, none⟩ = false ∧
      Kd.Q k31 31 w B (fun _ => True) (.slice (some ⟨gl, o, none⟩) n cap) (p :: l) := by
  obtain ⟨gl, o, cap, rfl, hb, hlt, hcells⟩ := Kd.Q_form hQ (by simp)
  obtain ⟨c, hcl, hM, hcc, hfr⟩ := Kd.Q_elem hQ z31 0 (by omega) (by simp)
  obtain rfl := k31_openM hM
  have h0 := hcc 0 _ rfl
  have h1 := hcc 1 _ rfl
  have h2 := hfr 0
  exact ⟨gl, o, (p :: l).length, cap, rfl, rfl, hb, (Kd.Q_reads' hQ).2.1, hcells, by simpa using h0, h1, by simpa using h2, hQ⟩
def impl_queueOf.Post (B g : Nat) (w : World) (q : List S31 × Int) (e : Ending) (w' : World) : Prop := e = .returned (.tuple #[]) ∧ impl_queueOf.St w' B g q ∧ Below B w w'
theorem impl_queueOf.fin {w wr : World} {B g gl o n cap gt : Nat} {gn d m pr x y z f0 f1 : Int} {l : List S31} (k : Nat) (hB : B ≤ g) (hBt : B ≤ gt) (hBl : B ≤ gl)
    (hq : wr.heap[g]? = some (.cells #[.slice (some ⟨gl, o, none⟩) n cap, .int .i64 gn] 46 (0, 0))) (ht : wr.heap[gt]? = some (.cells #[.int .i64 d, .int .i64 m, .int .i64 pr] 41 (0, 0)))
    (hQ : Kd.Q k31 31 wr B (fun _ => True) (.slice (some ⟨gl, o, none⟩) n cap) (⟨f0, f1⟩ :: l)) (hb : Below B w wr) (h1 : g ≠ gl) (h2 : g ≠ gt) (h3 : gl ≠ gt) :
    ((((wr.drewN k).setCell ⟨g, 1, none⟩ (.int .i64 x)).setCell ⟨gt, 1, none⟩ (.int .i64 y)).setCell ⟨gl, o, none⟩ (.int .i64 z)).heap[g]? = some (.cells #[.slice (some ⟨gl, o, none⟩) n cap, .int .i64 x] 46 (0, 0)) ∧
    ((((wr.drewN k).setCell ⟨g, 1, none⟩ (.int .i64 x)).setCell ⟨gt, 1, none⟩ (.int .i64 y)).setCell ⟨gl, o, none⟩ (.int .i64 z)).heap[gt]? = some (.cells #[.int .i64 d, .int .i64 y, .int .i64 pr] 41 (0, 0)) ∧
    Kd.Q k31 31 ((((wr.drewN k).setCell ⟨g, 1, none⟩ (.int .i64 x)).setCell ⟨gt, 1, none⟩ (.int .i64 y)).setCell ⟨gl, o, none⟩ (.int .i64 z)) B (fun _ => True) (.slice (some ⟨gl, o, none⟩) n cap) (⟨z, f1⟩ :: l) ∧
    Below B w ((((wr.drewN k).setCell ⟨g, 1, none⟩ (.int .i64 x)).setCell ⟨gt, 1, none⟩ (.int .i64 y)).setCell ⟨gl, o, none⟩ (.int .i64 z)) := by
  have a0 : (wr.drewN k).heap[g]? = some (.cells #[.slice (some ⟨gl, o, none⟩) n cap, .int .i64 gn] 46 (0, 0)) := hq
  have b0 : (wr.drewN k).heap[gt]? = some (.cells #[.int .i64 d, .int .i64 m, .int .i64 pr] 41 (0, 0)) := ht
  have q0 := Kd.Q_drewN hQ k
  have e0 := pw_below_drewN hb k
  generalize wr.drewN k = W at a0 b0 q0 e0 ⊢
  have a1 : (W.setCell ⟨g, 1, none⟩ (.int .i64 x)).heap[g]? = _ := blk_set a0 1 (.int .i64 x)
  have b1 : (W.setCell ⟨g, 1, none⟩ (.int .i64 x)).heap[gt]? = _ := blk_far b0 (p := ⟨g, 1, none⟩) (fun e => h2 e.symm) (.int .i64 x)
  have q1 := Kd.Q_set q0 a0 impl_queueOf.notE 1 (.int .i64 x)
  have e1 := e0.setCell (p := ⟨g, 1, none⟩) hB (.int .i64 x)
  generalize W.setCell ⟨g, 1, none⟩ (.int .i64 x) = W1 at a1 b1 q1 e1 ⊢
  have a2 : (W1.setCell ⟨gt, 1, none⟩ (.int .i64 y)).heap[g]? = _ := blk_far a1 (p := ⟨gt, 1, none⟩) h2 (.int .i64 y)
  have b2 : (W1.setCell ⟨gt, 1, none⟩ (.int .i64 y)).heap[gt]? = _ := blk_set b1 1 (.int .i64 y)
  have q2 := Kd.Q_set q1 b1 (show ∀ q, q ∈ 31 :: (k31).E → q ≠ 41 by decide) 1 (.int .i64 y)
  have e2 := e1.setCell (p := ⟨gt, 1, none⟩) hBt (.int .i64 y)
  generalize W1.setCell ⟨gt, 1, none⟩ (.int .i64 y) = W2 at a2 b2 q2 e2 ⊢
  have hn : n = l.length + 1 := (Kd.Q_reads' q2).1
  obtain ⟨c, hcl, hM, hcc, hfr⟩ := Kd.Q_elem q2 z31 0 (by omega) (by omega)
  obtain rfl := k31_openM hM
  have hs := Kd.Q_seg q2 0 (by omega) (by omega) (seg := [.int .i64 z]) (j := 0) hcl hcc (show 0 + 1 ≤ 2 from by decide) (x' := (⟨z, f1⟩ : S31)) (k31_mkM _ _ _ (⟨z, f1⟩ : S31)) (fun _ hk => hk)
  have hw : W2.setCells gl (o + (0 : Int).toNat * (k31).sz + 0) [.int .i64 z] = W2.setCell ⟨gl, o, none⟩ (.int .i64 z) := by
    simp [World.setCells]
  rw [hw] at hs
  exact ⟨blk_far a2 (p := ⟨gl, o, none⟩) h1 _, blk_far b2 (p := ⟨gl, o, none⟩) (fun e => h3 e.symm) _, hs.1, e2.setCell (p := ⟨gl, o, none⟩) hBl _⟩
theorem impl_queueOf.dropSt {W : World} {B g gl o n cap : Nat} {x : Int} {p : S31} {l : List S31} (a : W.heap[g]? = some (.cells #[.slice (some ⟨gl, o, none⟩) n cap, .int .i64 x] 46 (0, 0)))
    (q : Kd.Q k31 31 W B (fun _ => True) (.slice (some ⟨gl, o, none⟩) n cap) (p :: l)) (h : cap ≠ 1) : impl_queueOf.St (W.setCell ⟨g, 0, none⟩ (.slice (some ⟨gl, o + 2, none⟩) (n - 1) (cap - 1))) B g (l, x) := by
  have hd := Kd.Q_drop (k := 1) q (by simp)
  rw [if_neg h] at hd
  exact impl_queueOf.St.put a hd
theorem impl_queueOf.dropSt1 {W : World} {B g gl o : Nat} {x : Int} {p : S31} {l : List S31} (a : W.heap[g]? = some (.cells #[.slice (some ⟨gl, o, none⟩) 1 1, .int .i64 x] 46 (0, 0)))
    (q : Kd.Q k31 31 W B (fun _ => True) (.slice (some ⟨gl, o, none⟩) 1 1) (p :: l)) : impl_queueOf.St (W.setCell ⟨g, 0, none⟩ (.slice (some ⟨gl, o, none⟩) 0 0)) B g (l, x) := by
  have hd := Kd.Q_drop (k := 1) q (by simp)
  rw [if_pos rfl] at hd
  exact impl_queueOf.St.put a hd
theorem impl_queueOf.w64 {n : Int} (h1 : -9223372036854775808 ≤ n) (h2 : n ≤ 9223372036854775807) : wrap64 n = n := by
  unfold wrap64
  omega
/-- The head of each round. -/
def impl_queueOf.Rel (B g : Nat) (w : World) (d pr G : Int) (fin : List S31 × Int × Int) (gg : Nat) (wr : World) : Prop :=
  ∃ (ls : List S31) (m gn : Int), impl_queueOf.close pr ls m gn = fin ∧ ls.length + (if m = 0 then 0 else 1) ≤ gg ∧ (-9999 ≤ m ∧ m ≤ 9999) ∧ (gn + 49999 * (m.natAbs : Int) ≤ G ∧ -G ≤ gn - 49999 * (m.natAbs : Int)) ∧ ls.length ≤ 100 ∧ (∀ p ∈ ls, impl_queueOf.okL p = true) ∧
    wr.heap[w.heap.size]? = some (.cells #[.int .i64 d, .int .i64 m, .int .i64 pr] 41 (0, 0)) ∧ impl_queueOf.St wr B g (ls, gn) ∧ Below B w wr
theorem impl_queueOf.gain8 {gn1 a pr f1 : Int} (ha : -9999 ≤ a ∧ a ≤ 9999) (hg : -1000000000000 ≤ gn1 ∧ gn1 ≤ 1000000000000) (hp : 1 ≤ pr ∧ pr ≤ 50000) (hf : 1 ≤ f1 ∧ f1 ≤ 50000) : wrap64 (gn1 + wrap64 (a * wrap64 (pr - f1))) = gn1 + a * (pr - f1) := by
  have hb := impl_queueOf.prod_bd (a := a) (d := pr - f1) (by omega)
  rw [impl_queueOf.w64 (n := pr - f1) (by omega) (by omega), impl_queueOf.w64 (n := a * (pr - f1)) (by omega) (by omega), impl_queueOf.w64 (by omega) (by omega)]
theorem impl_queueOf.rel_drop {B g : Nat} {w W : World} {d pr G f0 f1 m1 gn1 m2 x : Int} {l : List S31} {fin : List S31 × Int × Int} (hcl : impl_queueOf.close pr (⟨f0, f1⟩ :: l) m1 gn1 = fin) (ho : (0 < f0 ∧ m1 < 0 ∧ m1 + f0 ≤ 0) ∨ (f0 < 0 ∧ 0 < m1 ∧ 0 ≤ m1 + f0))
    (hm1 : -9999 ≤ m1 ∧ m1 ≤ 9999) (hf : 1 ≤ f1 ∧ f1 ≤ 50000) (hpr : 1 ≤ pr ∧ pr ≤ 50000) (hG : gn1 + 49999 * (m1.natAbs : Int) ≤ G ∧ -G ≤ gn1 - 49999 * (m1.natAbs : Int)) (hln : (⟨f0, f1⟩ :: l : List S31).length ≤ 100) (hls : ∀ p ∈ (⟨f0, f1⟩ :: l : List S31), impl_queueOf.okL p = true)
    (hm2 : m2 = m1 + f0) (hx : x = gn1 + f0 * (pr - f1)) (ht : W.heap[w.heap.size]? = some (.cells #[.int .i64 d, .int .i64 m2, .int .i64 pr] 41 (0, 0))) (hst : impl_queueOf.St W B g (l, x)) (hb : Below B w W) :
    impl_queueOf.Rel B g w d pr G fin (l.length + 1) W := by
  subst hm2
  subst hx
  have hb1 := impl_queueOf.prod_bd (a := f0) (d := pr - f1) (by omega)
  refine ⟨l, m1 + f0, gn1 + f0 * (pr - f1), ?_, by split <;> omega, by omega, ⟨by omega, by omega⟩, by simp only [List.length_cons] at hln; omega, fun q hq => hls q (List.mem_cons_of_mem _ hq), ht, hst, hb⟩
  rw [← hcl]
  conv => rhs; unfold impl_queueOf.close
  rw [if_neg (by simp only; omega), if_pos (by simp only; omega)]
theorem impl_queueOf.rel_part {B g : Nat} {w W : World} {d pr G f0 f1 m1 gn1 f2 m2 x : Int} {l : List S31} {fin : List S31 × Int × Int} (hcl : impl_queueOf.close pr (⟨f0, f1⟩ :: l) m1 gn1 = fin) (ho : (0 < f0 ∧ m1 < 0 ∧ 0 < m1 + f0) ∨ (f0 < 0 ∧ 0 < m1 ∧ m1 + f0 < 0))
    (hm1 : -9999 ≤ m1 ∧ m1 ≤ 9999) (hf : 1 ≤ f1 ∧ f1 ≤ 50000) (hf0 : -9999 ≤ f0 ∧ f0 ≤ 9999) (hpr : 1 ≤ pr ∧ pr ≤ 50000) (hG : gn1 + 49999 * (m1.natAbs : Int) ≤ G ∧ -G ≤ gn1 - 49999 * (m1.natAbs : Int)) (hln : (⟨f0, f1⟩ :: l : List S31).length ≤ 100) (hls : ∀ p ∈ (⟨f0, f1⟩ :: l : List S31), impl_queueOf.okL p = true)
    (hm2 : m2 = 0) (hf2 : f2 = f0 + m1) (hx : x = gn1 - m1 * (pr - f1)) (ht : W.heap[w.heap.size]? = some (.cells #[.int .i64 d, .int .i64 m2, .int .i64 pr] 41 (0, 0))) (hst : impl_queueOf.St W B g (⟨f2, f1⟩ :: l, x)) (hb : Below B w W) :
    impl_queueOf.Rel B g w d pr G fin (l.length + 1) W := by
  subst hm2
  subst hf2
  subst hx
  have hb1 := impl_queueOf.prod_bd (a := m1) (d := pr - f1) (by omega)
  refine ⟨⟨f0 + m1, f1⟩ :: l, 0, gn1 - m1 * (pr - f1), ?_, by simp, by omega, ⟨by simp only [Int.natAbs_zero]; omega, by simp only [Int.natAbs_zero]; omega⟩, hln, fun q hq => ?_, ht, hst, hb⟩
  · rw [← hcl]
    conv => rhs; unfold impl_queueOf.close
    rw [if_neg (by simp only; omega), if_neg (by simp only; omega)]
    unfold impl_queueOf.close
    rw [if_pos (.inl rfl)]
  · rcases List.mem_cons.1 hq with rfl | hq
    · exact decide_eq_true ⟨by simp only; omega, by simp only; omega, hf⟩
    · exact hls q (List.mem_cons_of_mem _ hq)
theorem impl_queueOf.gDD {gn1 f0 pr f1 : Int} (ha : -9999 ≤ f0 ∧ f0 ≤ 9999) (hg : -1000000000000 ≤ gn1 ∧ gn1 ≤ 1000000000000) (hp : 1 ≤ pr ∧ pr ≤ 50000) (hf : 1 ≤ f1 ∧ f1 ≤ 50000) : wrap64 (gn1 + wrap64 (f0 * wrap64 (pr - f1))) = gn1 + f0 * (pr - f1) := impl_queueOf.gain8 ha hg hp hf
theorem impl_queueOf.gDP {gn1 m1 pr f1 : Int} (ha : -9999 ≤ m1 ∧ m1 ≤ 9999) (hg : -1000000000000 ≤ gn1 ∧ gn1 ≤ 1000000000000) (hp : 1 ≤ pr ∧ pr ≤ 50000) (hf : 1 ≤ f1 ∧ f1 ≤ 50000) : wrap64 (gn1 + wrap64 (-m1 * wrap64 (pr - f1))) = gn1 - m1 * (pr - f1) := by
  rw [impl_queueOf.gain8 (by omega) hg hp hf, Int.neg_mul]
  omega
theorem impl_queueOf.gUD {gn1 f0 pr f1 : Int} (ha : -9999 ≤ f0 ∧ f0 ≤ 9999) (hg : -1000000000000 ≤ gn1 ∧ gn1 ≤ 1000000000000) (hp : 1 ≤ pr ∧ pr ≤ 50000) (hf : 1 ≤ f1 ∧ f1 ≤ 50000) : wrap64 (gn1 + wrap64 (-f0 * wrap64 (f1 - pr))) = gn1 + f0 * (pr - f1) := by
  rw [impl_queueOf.gain8 (by omega) hg hf hp, Int.neg_mul, ← Int.mul_neg, Int.neg_sub]
theorem impl_queueOf.gUP {gn1 m1 pr f1 : Int} (ha : -9999 ≤ m1 ∧ m1 ≤ 9999) (hg : -1000000000000 ≤ gn1 ∧ gn1 ≤ 1000000000000) (hp : 1 ≤ pr ∧ pr ≤ 50000) (hf : 1 ≤ f1 ∧ f1 ≤ 50000) : wrap64 (gn1 + wrap64 (m1 * wrap64 (f1 - pr))) = gn1 - m1 * (pr - f1) := by
  rw [impl_queueOf.gain8 (by omega) hg hf hp, ← Int.neg_sub pr f1, Int.mul_neg]
  omega
set_option maxHeartbeats 40000000 in
set_option maxRecDepth 100000 in
theorem impl_queueOf.take_calls (g : Nat) (ls : List S31) (gn d m pr : Int) (B : Nat) (w : World) (hB : B ≤ g) (hst : impl_queueOf.St w B g (ls, gn)) (hls : ∀ p ∈ ls, impl_queueOf.okL p = true) (hlen : ls.length ≤ 100)
    (hgn : -100000000000 ≤ gn ∧ gn ≤ 100000000000) (hm : -9999 ≤ m ∧ m ≤ 9999) (hpr : 1 ≤ pr ∧ pr ≤ 50000) :
    Calls Try.prog 25 #[.pointer (some ⟨g, 0, none⟩), .agg #[.int .i64 d, .int .i64 m, .int .i64 pr]] w (impl_queueOf.Post B g w (impl_queueOf.take (ls, gn) ⟨d, m, pr⟩)) := by
  obtain ⟨gmax, hgm⟩ : ∃ n : Nat, ls.length + 1 ≤ n := ⟨_, Nat.le_refl _⟩
  obtain ⟨G, hG⟩ : ∃ G : Int, G ≤ 1000000000000 ∧ 500000000000 ≤ G := ⟨1000000000000, by omega, by omega⟩
  have HLS := Aside0.mk hls
  have HST := Aside0.mk hst
  obtain ⟨v0, hq0, _⟩ := hst
  have hBw : B ≤ w.heap.size := by have := blk_lt hq0; omega
  have hgw : g < w.heap.size := blk_lt hq0
  obtain ⟨fin, hfin⟩ : ∃ f, f = impl_queueOf.close pr ls m gn := ⟨_, rfl⟩
  have htake : impl_queueOf.take (ls, gn) ⟨d, m, pr⟩ = (if fin.2.1 = 0 then fin.1 else fin.1 ++ [⟨fin.2.1, pr⟩], fin.2.2) := by rw [hfin]; rfl
  generalize impl_queueOf.take (ls, gn) ⟨d, m, pr⟩ = q1 at htake ⊢
  have HTAKE := Aside0.mk htake
  have HFIN := Aside0.mk hfin
  clear hls hfin hq0 htake
  go_enter Try.func25, Try.ntmps25
  go_wp2
  go_loopg [4] gmax (fun gg v4 wr => impl_queueOf.Rel B g w d pr G fin gg wr)
  case atStart =>
    refine ⟨ls, m, gn, HFIN.out.symm, by split <;> omega, hm, by omega, hlen, HLS.out, ?_, ?_, ?_⟩
    · exact heap_alloc_new w _
    · exact impl_queueOf.St.alloc HST.out _
    · exact (Below.refl B w).alloc hBw _
  case round =>
    obtain ⟨ls1, m1, gn1, hcl, hgg, hm1, hG1, hln, hls1, ht, hst1, hbr⟩ := hrel
    obtain ⟨v, hq, hQ⟩ := hst1
    have hc0 : wr.cell? ⟨g, 0, none⟩ = some v := (blk_cell hq 0).trans rfl
    have hc1 : wr.cell? ⟨g, 1, none⟩ = some (.int .i64 gn1) := (blk_cell hq 1).trans rfl
    have hf0 : wr.frozen? ⟨g, 0, none⟩ = false := blk_frozen hq 0
    have hf1 : wr.frozen? ⟨g, 1, none⟩ = false := blk_frozen hq 1
    have ht1 : wr.cell? ⟨w.heap.size, 1, none⟩ = some (.int .i64 m1) := (blk_cell ht 1).trans rfl
    have ht2 : wr.cell? ⟨w.heap.size, 2, none⟩ = some (.int .i64 pr) := (blk_cell ht 2).trans rfl
    have hft : wr.frozen? ⟨w.heap.size, 1, none⟩ = false := blk_frozen ht 1
    have HCL := Aside0.mk hcl
    have HQ := Aside0.mk hQ
    have HB := Aside0.mk hbr
    have HTB := Aside0.mk ht
    have HQB := Aside0.mk hq
    have HLS1 := Aside0.mk hls1
    clear hcl hQ hbr ht hq hls1 HST HLS
    by_cases c0 : m1 = 0
    · subst c0
      go_wp2
      go_quiet (fail)
      go_wp2
      go_end0
      have e : fin = (ls1, 0, gn1) := by
        rw [← HCL.out]
        cases ls1 with
        | nil => rfl
        | cons p l => unfold impl_queueOf.close; rw [if_pos (.inl rfl)]
      have e2 : q1 = (ls1, gn1) := by rw [HTAKE.out, e]; rfl
      rw [e2]
      exact ⟨rfl, ⟨v, HQB.out, Kd.Q_drewN HQ.out _⟩, pw_below_drewN HB.out _⟩
    · have c0b : (m1 != 0) = true := by simpa using c0
      by_cases c1 : ls1 = []
      · subst c1
        obtain ⟨A, cp, rfl, hcp⟩ := Kd.Q_slice HQ.out
        go_wp2
        go_quiet (fail)
        go_wp2
        have HNE := Aside0.mk (Kd.Q_ne HQ.out HQB.out (show (31 : Nat) ≠ 46 from by decide))
        have HBR := Aside0.mk (Nat.le_trans hBw HB.out.size : B ≤ wr.heap.size)
        have HL := Aside0.mk (show ((([] : List S31)).length + 1) * 16 ≤ 140737488355328 by simp)
        have HQ2 := Aside0.mk (Kd.Q_drew (Kd.Q_drewN HQ.out nq))
        have HQB2 : Aside0 (((wr.drewN nq).drew).heap[g]? = some (.cells #[.slice A ([] : List S31).length cp, .int .i64 gn1] 46 (0, 0))) := ⟨HQB.out⟩
        have HB2 := Aside0.mk (below_drew (pw_below_drewN HB.out nq))
        replace HBR : Aside0 (B ≤ ((wr.drewN nq).drew).heap.size) := ⟨HBR.out⟩
        refine start_ (n := 15) (S := fun w' => w'.cell? ⟨g, 0, none⟩ = some (.slice A ([] : List S31).length cp) ∧ w'.cell? ⟨w.heap.size, 1, none⟩ = some (.int .i64 m1) ∧ w'.cell? ⟨w.heap.size, 2, none⟩ = some (.int .i64 pr)) (ds := [11, 14]) #[false, false, false, false, false, false, false, false, false, false, false, false, false, false, false] (by kernel_rfl) rfl rfl ⟨hc0, ht1, ht2⟩ (fun hHeld => ?_)
        generalize (wr.drewN nq).drew = W at HQ2 HQB2 HB2 HBR hHeld ⊢
        refine pure_ (i := 0) (N := some 130) (v := ?_) (a' := ?_) #[true, false, false, false, false, false, false, false, false, false, false, false, false, false, false] rfl rfl (by kernel_rfl) (fun _ _ _ h => h) (Or.inl ⟨by rfl, ?_⟩) ?_ ?_
        rotate_left
        · intro w'
          go_simp
          with_reducible rfl
        rotate_left
        · simp only [Act.put, List.setIfInBounds_toArray, List.set_cons_zero, List.set_cons_succ, i64_w, i32_w]
          rfl
        refine pure_ (i := 1) (N := some 131) (v := ?_) (a' := ?_) #[true, true, false, false, false, false, false, false, false, false, false, false, false, false, false] rfl rfl (by kernel_rfl) (fun _ _ _ h => h) (Or.inl ⟨by rfl, ?_⟩) ?_ ?_
        rotate_left
        · intro w'
          go_simp
          with_reducible rfl
        rotate_left
        · simp only [Act.put, List.setIfInBounds_toArray, List.set_cons_zero, List.set_cons_succ, i64_w, i32_w]
          rfl
        refine pure_ (i := 2) (N := some 132) (v := ?_) (a' := ?_) #[true, true, true, false, false, false, false, false, false, false, false, false, false, false, false] rfl rfl (by kernel_rfl) (fun _ _ _ h => h) (Or.inl ⟨by rfl, ?_⟩) ?_ ?_
        rotate_left
        · intro w'
          go_simp
          with_reducible rfl
        rotate_left
        · simp only [Act.put, List.setIfInBounds_toArray, List.set_cons_zero, List.set_cons_succ, i64_w, i32_w]
          rfl
        refine pure_ (i := 3) (N := some 133) (v := ?_) (a' := ?_) #[true, true, true, true, false, false, false, false, false, false, false, false, false, false, false] rfl rfl (by kernel_rfl) (fun _ _ _ h => h) (Or.inl ⟨by rfl, ?_⟩) ?_ ?_
        rotate_left
        · intro w'
          go_simp
          with_reducible rfl
        rotate_left
        · simp only [Act.put, List.setIfInBounds_toArray, List.set_cons_zero, List.set_cons_succ, i64_w, i32_w]
          rfl
        refine take_ (i := 4) (N := some 134) (v := ?_) (a' := ?_) #[true, true, true, true, true, false, false, false, false, false, false, false, false, false, false] rfl rfl (by kernel_rfl) (fun _ _ _ h => h) (Or.inl ⟨by rfl, ?_⟩) hHeld ?_ ?_
        rotate_left
        · rintro w' ⟨s0, s1, s2⟩
          go_simp
          with_reducible rfl
        rotate_left
        · simp only [Act.put, List.setIfInBounds_toArray, List.set_cons_zero, List.set_cons_succ, i64_w, i32_w]
          rfl
        refine pure_ (i := 5) (N := some 135) (v := ?_) (a' := ?_) #[true, true, true, true, true, true, false, false, false, false, false, false, false, false, false] rfl rfl (by kernel_rfl) (fun _ _ _ h => h) (Or.inl ⟨by rfl, ?_⟩) ?_ ?_
        rotate_left
        · intro w'
          go_simp
          with_reducible rfl
        rotate_left
        · simp only [Act.put, List.setIfInBounds_toArray, List.set_cons_zero, List.set_cons_succ, i64_w, i32_w]
          rfl
        refine take_ (i := 6) (N := some 136) (v := ?_) (a' := ?_) #[true, true, true, true, true, true, true, false, false, false, false, false, false, false, false] rfl rfl (by kernel_rfl) (fun _ _ _ h => h) (Or.inl ⟨by rfl, ?_⟩) hHeld ?_ ?_
        rotate_left
        · rintro w' ⟨s0, s1, s2⟩
          go_simp
          with_reducible rfl
        rotate_left
        · simp only [Act.put, List.setIfInBounds_toArray, List.set_cons_zero, List.set_cons_succ, i64_w, i32_w]
          rfl
        refine pure_ (i := 7) (N := some 137) (v := ?_) (a' := ?_) #[true, true, true, true, true, true, true, true, false, false, false, false, false, false, false] rfl rfl (by kernel_rfl) (fun _ _ _ h => h) (Or.inl ⟨by rfl, ?_⟩) ?_ ?_
        rotate_left
        · intro w'
          go_simp
          with_reducible rfl
        rotate_left
        · simp only [Act.put, List.setIfInBounds_toArray, List.set_cons_zero, List.set_cons_succ, i64_w, i32_w]
          rfl
        refine take_ (i := 8) (N := some 138) (v := ?_) (a' := ?_) #[true, true, true, true, true, true, true, true, true, false, false, false, false, false, false] rfl rfl (by kernel_rfl) (fun _ _ _ h => h) (Or.inl ⟨by rfl, ?_⟩) hHeld ?_ ?_
        rotate_left
        · rintro w' ⟨s0, s1, s2⟩
          go_simp
          with_reducible rfl
        rotate_left
        · simp only [Act.put, List.setIfInBounds_toArray, List.set_cons_zero, List.set_cons_succ, i64_w, i32_w]
          rfl
        refine pure_ (i := 9) (N := some 139) (v := ?_) (a' := ?_) #[true, true, true, true, true, true, true, true, true, true, false, false, false, false, false] rfl rfl (by kernel_rfl) (fun _ _ _ h => h) (Or.inl ⟨by rfl, ?_⟩) ?_ ?_
        rotate_left
        · intro w'
          go_simp
          with_reducible rfl
        rotate_left
        · simp only [Act.put, List.setIfInBounds_toArray, List.set_cons_zero, List.set_cons_succ, i64_w, i32_w]
          rfl
        refine one_ (i := 10) (N := some 140) #[true, true, true, true, true, true, true, true, true, true, true, false, false, false, false] rfl rfl (by kernel_rfl) (by decide) (fun K hK => ?_)
        refine value_ (w1 := ?_) (v := ?_) (by rfl) rfl ?_ ?_
        rotate_left 2
        · go_simp
          constructor
          · rfl
          · rfl
        refine hK.out _ _ ⟨pw_cell_below (below_alloc (Below.refl _ _) _) hHeld.1, pw_cell_below (below_alloc (Below.refl _ _) _) hHeld.2.1, pw_cell_below (below_alloc (Below.refl _ _) _) hHeld.2.2⟩ (fun hHeld => ?_)
        clear hK K
        refine norm_ (a' := ?_) ?_ ?_
        rotate_left
        · show Act.put _ (some 140) _ = _
          simp only [Act.put, List.setIfInBounds_toArray, List.set_cons_zero, List.set_cons_succ, i64_w, i32_w]
          rfl
        refine last_ (i := 11) (N := some 141) #[true, true, true, true, true, true, true, true, true, true, true, true, false, false, false] rfl rfl (by kernel_rfl) (by decide) (fun K hK => ?_)
        refine Kd.Q_append_step k31 (w0 := w) B (by rfl) (.tmp 134) (.tmp 140) 28 31 (.agg #[.int .i64 0, .int .i64 0]) 16 (by rfl) Try.underlying28 impl_queueOf.infoL rfl (by decide) (by omega) (.slice A ([] : List S31).length cp) ([] : List S31) (⟨m1, pr⟩ : S31) [.int .i64 m1, .int .i64 pr] (fun _ => True) (fun _ => False) (by rfl) (by rfl) (k31_mkM _ _ _ (⟨m1, pr⟩ : S31)) (fun _ hk => hk.elim) (fun _ _ => trivial) HQ2.out HB2.out HBR.out HL.out ?_
        intro v1 w1 ho hb hgr hat
        obtain ⟨A1, c1, rfl, _⟩ := Kd.Q_slice ho
        generalize hn1 : (([] : List S31) ++ [(⟨m1, pr⟩ : S31)]).length = n1 at ho ⊢
        clear hn1
        have hb1 : w1.heap[g]? = some (.cells #[.slice A ([] : List S31).length cp, .int .i64 gn1] 46 (0, 0)) := blk_grown HQB2.out hgr HNE.out
        have hx3 : w1.frozen? ⟨g, 0, none⟩ = false := blk_frozen hb1 0
        have hx4 : w1.cell? ⟨g, 0, none⟩ = some (.slice A ([] : List S31).length cp) := (blk_cell hb1 0).trans rfl
        have HO1 := Aside0.mk ho
        have HBB := Aside0.mk hb
        have HB1 := Aside0.mk hb1
        clear ho hb hgr hat hb1
        refine hK.out _ _ ?_
        clear hK K
        refine norm_ (a' := ?_) ?_ ?_
        rotate_left
        · show Act.put _ (some 141) _ = _
          simp only [Act.put, List.setIfInBounds_toArray, List.set_cons_zero, List.set_cons_succ, i64_w, i32_w]
          rfl
        refine pure_ (i := 12) (N := some 142) (v := ?_) (a' := ?_) #[true, true, true, true, true, true, true, true, true, true, true, true, true, false, false] rfl rfl (by kernel_rfl) (fun _ _ _ h => h) (Or.inl ⟨by rfl, ?_⟩) ?_ ?_
        rotate_left
        · intro w'
          go_simp
          with_reducible rfl
        rotate_left
        · simp only [Act.put, List.setIfInBounds_toArray, List.set_cons_zero, List.set_cons_succ, i64_w, i32_w]
          rfl
        refine pure_ (i := 13) (N := some 143) (v := ?_) (a' := ?_) #[true, true, true, true, true, true, true, true, true, true, true, true, true, true, false] rfl rfl (by kernel_rfl) (fun _ _ _ h => h) (Or.inl ⟨by rfl, ?_⟩) ?_ ?_
        rotate_left
        · intro w'
          go_simp
          with_reducible rfl
        rotate_left
        · simp only [Act.put, List.setIfInBounds_toArray, List.set_cons_zero, List.set_cons_succ, i64_w, i32_w]
          rfl
        refine last_ (i := 14) (N := none) #[true, true, true, true, true, true, true, true, true, true, true, true, true, true, true] rfl rfl (by kernel_rfl) (by decide) (fun K hK => ?_)
        refine skip_ (w1 := ?_) (by rfl) rfl ?_ ?_
        rotate_left
        · go_simp
          rfl
        refine hK.out _ _ ?_
        clear hK K
        refine done_ (by kernel_rfl) ?_
        go_end0
        have e : fin = ([], m1, gn1) := by rw [← HCL.out]; rfl
        have e2 : q1 = ([] ++ [⟨m1, pr⟩], gn1) := by rw [HTAKE.out, e]; simp only [if_neg c0]
        rw [e2]
        exact ⟨rfl, impl_queueOf.St.put HB1.out HO1.out, HBB.out.setCell hB _⟩
      · obtain ⟨p, l, rfl⟩ : ∃ p l, ls1 = p :: l := by
          cases ls1 with
          | nil => exact absurd rfl c1
          | cons p l => exact ⟨p, l, rfl⟩
        clear c1
        obtain ⟨gl, o, n, cap, rfl, hn, hBl, hnc, ⟨cells, hgl⟩, hx0, hx1, hxf, hQ2⟩ := impl_queueOf.head HQ.out
        have HQ1 := Aside0.mk hQ2
        have hp := impl_queueOf.okL_of (HLS1.out p List.mem_cons_self)
        have hne1 : g ≠ gl := blk_ne HQB.out hgl (by decide)
        have hne2 : gl ≠ g := fun e => hne1 e.symm
        have hne3 : g ≠ w.heap.size := by omega
        have hne4 : w.heap.size ≠ g := by omega
        have hne5 : gl ≠ w.heap.size := blk_ne hgl HTB.out (by decide)
        have hne6 : w.heap.size ≠ gl := fun e => hne5 e.symm
        have hnz : 0 < n := by omega
        have hni : (0 : Int) < (n : Int) := by omega
        have hn1 : 1 ≤ n := by omega
        have HN := Aside0.mk hn
        have HGL := Aside0.mk hgl
        have HPL := Aside0.mk hln
        have HGG := Aside0.mk hgg
        clear hQ2 hn hgl HQ hln hgg
        obtain ⟨f0, f1⟩ := p
        simp only at hx0 hx1 hp
        have hd0 : decide (0 < (n : Int)) = true := decide_eq_true hni
        by_cases s1 : 0 < f0
        · have hs1 : decide (0 < f0) = true := decide_eq_true s1
          by_cases s2 : 0 < m1
          · have hs2 : decide (0 < m1) = true := decide_eq_true s2
            go_wp2
            go_quiet (fail)
            go_wp2
            have HNE := Aside0.mk (Kd.Q_ne HQ1.out HQB.out (show (31 : Nat) ≠ 46 from by decide))
            have HBR := Aside0.mk (Nat.le_trans hBw HB.out.size : B ≤ wr.heap.size)
            have HL := Aside0.mk (show (((⟨f0, f1⟩ :: l : List S31)).length + 1) * 16 ≤ 140737488355328 by have := HPL.out; omega)
            have HQ2 := Aside0.mk (Kd.Q_drew (Kd.Q_drewN HQ1.out nq))
            have HQB2 : Aside0 (((wr.drewN nq).drew).heap[g]? = some (.cells #[.slice (some ⟨gl, o, none⟩) n cap, .int .i64 gn1] 46 (0, 0))) := ⟨HQB.out⟩
            have HB2 := Aside0.mk (below_drew (pw_below_drewN HB.out nq))
            replace HBR : Aside0 (B ≤ ((wr.drewN nq).drew).heap.size) := ⟨HBR.out⟩
            refine start_ (n := 15) (S := fun w' => w'.cell? ⟨g, 0, none⟩ = some (.slice (some ⟨gl, o, none⟩) n cap) ∧ w'.cell? ⟨w.heap.size, 1, none⟩ = some (.int .i64 m1) ∧ w'.cell? ⟨w.heap.size, 2, none⟩ = some (.int .i64 pr)) (ds := [11, 14]) #[false, false, false, false, false, false, false, false, false, false, false, false, false, false, false] (by kernel_rfl) rfl rfl ⟨hc0, ht1, ht2⟩ (fun hHeld => ?_)
            generalize (wr.drewN nq).drew = W at HQ2 HQB2 HB2 HBR hHeld ⊢
            refine pure_ (i := 0) (N := some 130) (v := ?_) (a' := ?_) #[true, false, false, false, false, false, false, false, false, false, false, false, false, false, false] rfl rfl (by kernel_rfl) (fun _ _ _ h => h) (Or.inl ⟨by rfl, ?_⟩) ?_ ?_
            rotate_left
            · intro w'
              go_simp
              with_reducible rfl
            rotate_left
            · simp only [Act.put, List.setIfInBounds_toArray, List.set_cons_zero, List.set_cons_succ, i64_w, i32_w]
              rfl
            refine pure_ (i := 1) (N := some 131) (v := ?_) (a' := ?_) #[true, true, false, false, false, false, false, false, false, false, false, false, false, false, false] rfl rfl (by kernel_rfl) (fun _ _ _ h => h) (Or.inl ⟨by rfl, ?_⟩) ?_ ?_
            rotate_left
            · intro w'
              go_simp
              with_reducible rfl
            rotate_left
            · simp only [Act.put, List.setIfInBounds_toArray, List.set_cons_zero, List.set_cons_succ, i64_w, i32_w]
              rfl
            refine pure_ (i := 2) (N := some 132) (v := ?_) (a' := ?_) #[true, true, true, false, false, false, false, false, false, false, false, false, false, false, false] rfl rfl (by kernel_rfl) (fun _ _ _ h => h) (Or.inl ⟨by rfl, ?_⟩) ?_ ?_
            rotate_left
            · intro w'
              go_simp
              with_reducible rfl
            rotate_left
            · simp only [Act.put, List.setIfInBounds_toArray, List.set_cons_zero, List.set_cons_succ, i64_w, i32_w]
              rfl
            refine pure_ (i := 3) (N := some 133) (v := ?_) (a' := ?_) #[true, true, true, true, false, false, false, false, false, false, false, false, false, false, false] rfl rfl (by kernel_rfl) (fun _ _ _ h => h) (Or.inl ⟨by rfl, ?_⟩) ?_ ?_
            rotate_left
            · intro w'
              go_simp
              with_reducible rfl
            rotate_left
            · simp only [Act.put, List.setIfInBounds_toArray, List.set_cons_zero, List.set_cons_succ, i64_w, i32_w]
              rfl
            refine take_ (i := 4) (N := some 134) (v := ?_) (a' := ?_) #[true, true, true, true, true, false, false, false, false, false, false, false, false, false, false] rfl rfl (by kernel_rfl) (fun _ _ _ h => h) (Or.inl ⟨by rfl, ?_⟩) hHeld ?_ ?_
            rotate_left
            · rintro w' ⟨s0, s1, s2⟩
              go_simp
              with_reducible rfl
            rotate_left
            · simp only [Act.put, List.setIfInBounds_toArray, List.set_cons_zero, List.set_cons_succ, i64_w, i32_w]
              rfl
            refine pure_ (i := 5) (N := some 135) (v := ?_) (a' := ?_) #[true, true, true, true, true, true, false, false, false, false, false, false, false, false, false] rfl rfl (by kernel_rfl) (fun _ _ _ h => h) (Or.inl ⟨by rfl, ?_⟩) ?_ ?_
            rotate_left
            · intro w'
              go_simp
              with_reducible rfl
            rotate_left
            · simp only [Act.put, List.setIfInBounds_toArray, List.set_cons_zero, List.set_cons_succ, i64_w, i32_w]
              rfl
            refine take_ (i := 6) (N := some 136) (v := ?_) (a' := ?_) #[true, true, true, true, true, true, true, false, false, false, false, false, false, false, false] rfl rfl (by kernel_rfl) (fun _ _ _ h => h) (Or.inl ⟨by rfl, ?_⟩) hHeld ?_ ?_
            rotate_left
            · rintro w' ⟨s0, s1, s2⟩
              go_simp
              with_reducible rfl
            rotate_left
            · simp only [Act.put, List.setIfInBounds_toArray, List.set_cons_zero, List.set_cons_succ, i64_w, i32_w]
              rfl
            refine pure_ (i := 7) (N := some 137) (v := ?_) (a' := ?_) #[true, true, true, true, true, true, true, true, false, false, false, false, false, false, false] rfl rfl (by kernel_rfl) (fun _ _ _ h => h) (Or.inl ⟨by rfl, ?_⟩) ?_ ?_
            rotate_left
            · intro w'
              go_simp
              with_reducible rfl
            rotate_left
            · simp only [Act.put, List.setIfInBounds_toArray, List.set_cons_zero, List.set_cons_succ, i64_w, i32_w]
              rfl
            refine take_ (i := 8) (N := some 138) (v := ?_) (a' := ?_) #[true, true, true, true, true, true, true, true, true, false, false, false, false, false, false] rfl rfl (by kernel_rfl) (fun _ _ _ h => h) (Or.inl ⟨by rfl, ?_⟩) hHeld ?_ ?_
            rotate_left
            · rintro w' ⟨s0, s1, s2⟩
              go_simp
              with_reducible rfl
            rotate_left
            · simp only [Act.put, List.setIfInBounds_toArray, List.set_cons_zero, List.set_cons_succ, i64_w, i32_w]
              rfl
            refine pure_ (i := 9) (N := some 139) (v := ?_) (a' := ?_) #[true, true, true, true, true, true, true, true, true, true, false, false, false, false, false] rfl rfl (by kernel_rfl) (fun _ _ _ h => h) (Or.inl ⟨by rfl, ?_⟩) ?_ ?_
            rotate_left
            · intro w'
              go_simp
              with_reducible rfl
            rotate_left
            · simp only [Act.put, List.setIfInBounds_toArray, List.set_cons_zero, List.set_cons_succ, i64_w, i32_w]
              rfl
            refine one_ (i := 10) (N := some 140) #[true, true, true, true, true, true, true, true, true, true, true, false, false, false, false] rfl rfl (by kernel_rfl) (by decide) (fun K hK => ?_)
            refine value_ (w1 := ?_) (v := ?_) (by rfl) rfl ?_ ?_
            rotate_left 2
            · go_simp
              constructor
              · rfl
              · rfl
            refine hK.out _ _ ⟨pw_cell_below (below_alloc (Below.refl _ _) _) hHeld.1, pw_cell_below (below_alloc (Below.refl _ _) _) hHeld.2.1, pw_cell_below (below_alloc (Below.refl _ _) _) hHeld.2.2⟩ (fun hHeld => ?_)
            clear hK K
            refine norm_ (a' := ?_) ?_ ?_
            rotate_left
            · show Act.put _ (some 140) _ = _
              simp only [Act.put, List.setIfInBounds_toArray, List.set_cons_zero, List.set_cons_succ, i64_w, i32_w]
              rfl
            refine last_ (i := 11) (N := some 141) #[true, true, true, true, true, true, true, true, true, true, true, true, false, false, false] rfl rfl (by kernel_rfl) (by decide) (fun K hK => ?_)
            refine Kd.Q_append_step k31 (w0 := w) B (by rfl) (.tmp 134) (.tmp 140) 28 31 (.agg #[.int .i64 0, .int .i64 0]) 16 (by rfl) Try.underlying28 impl_queueOf.infoL rfl (by decide) (by omega) (.slice (some ⟨gl, o, none⟩) n cap) (⟨f0, f1⟩ :: l : List S31) (⟨m1, pr⟩ : S31) [.int .i64 m1, .int .i64 pr] (fun _ => True) (fun _ => False) (by rfl) (by rfl) (k31_mkM _ _ _ (⟨m1, pr⟩ : S31)) (fun _ hk => hk.elim) (fun _ _ => trivial) HQ2.out HB2.out HBR.out HL.out ?_
            intro v1 w1 ho hb hgr hat
            obtain ⟨A1, c1, rfl, _⟩ := Kd.Q_slice ho
            generalize hn1 : ((⟨f0, f1⟩ :: l : List S31) ++ [(⟨m1, pr⟩ : S31)]).length = n1 at ho ⊢
            clear hn1
            have hb1 : w1.heap[g]? = some (.cells #[.slice (some ⟨gl, o, none⟩) n cap, .int .i64 gn1] 46 (0, 0)) := blk_grown HQB2.out hgr HNE.out
            have hx3 : w1.frozen? ⟨g, 0, none⟩ = false := blk_frozen hb1 0
            have hx4 : w1.cell? ⟨g, 0, none⟩ = some (.slice (some ⟨gl, o, none⟩) n cap) := (blk_cell hb1 0).trans rfl
            have HO1 := Aside0.mk ho
            have HBB := Aside0.mk hb
            have HB1 := Aside0.mk hb1
            clear ho hb hgr hat hb1
            refine hK.out _ _ ?_
            clear hK K
            refine norm_ (a' := ?_) ?_ ?_
            rotate_left
            · show Act.put _ (some 141) _ = _
              simp only [Act.put, List.setIfInBounds_toArray, List.set_cons_zero, List.set_cons_succ, i64_w, i32_w]
              rfl
            refine pure_ (i := 12) (N := some 142) (v := ?_) (a' := ?_) #[true, true, true, true, true, true, true, true, true, true, true, true, true, false, false] rfl rfl (by kernel_rfl) (fun _ _ _ h => h) (Or.inl ⟨by rfl, ?_⟩) ?_ ?_
            rotate_left
            · intro w'
              go_simp
              with_reducible rfl
            rotate_left
            · simp only [Act.put, List.setIfInBounds_toArray, List.set_cons_zero, List.set_cons_succ, i64_w, i32_w]
              rfl
            refine pure_ (i := 13) (N := some 143) (v := ?_) (a' := ?_) #[true, true, true, true, true, true, true, true, true, true, true, true, true, true, false] rfl rfl (by kernel_rfl) (fun _ _ _ h => h) (Or.inl ⟨by rfl, ?_⟩) ?_ ?_
            rotate_left
            · intro w'
              go_simp
              with_reducible rfl
            rotate_left
            · simp only [Act.put, List.setIfInBounds_toArray, List.set_cons_zero, List.set_cons_succ, i64_w, i32_w]
              rfl
            refine last_ (i := 14) (N := none) #[true, true, true, true, true, true, true, true, true, true, true, true, true, true, true] rfl rfl (by kernel_rfl) (by decide) (fun K hK => ?_)
            refine skip_ (w1 := ?_) (by rfl) rfl ?_ ?_
            rotate_left
            · go_simp
              rfl
            refine hK.out _ _ ?_
            clear hK K
            refine done_ (by kernel_rfl) ?_
            go_end0
            have e : fin = (⟨f0, f1⟩ :: l, m1, gn1) := by
              rw [← HCL.out]
              unfold impl_queueOf.close
              rw [if_pos (.inr (by simp only; omega))]
            have e2 : q1 = ((⟨f0, f1⟩ :: l) ++ [⟨m1, pr⟩], gn1) := by rw [HTAKE.out, e]; simp only [if_neg c0]
            rw [e2]
            exact ⟨rfl, impl_queueOf.St.put HB1.out HO1.out, HBB.out.setCell hB _⟩
          · have hs2 : decide (0 < m1) = false := decide_eq_false s2
            by_cases h3 : f0 ≤ -m1
            · by_cases hcap : cap = 1
              · have hcap2 : n = 1 := by omega
                subst hcap
                subst hcap2
                clear hd0 hni hnz hn1
                have HG1 := Aside0.mk hG1
                clear hG1
                go_wp2
                go_quiet (fail)
                go_wp2
                go_quiet (fail)
                go_wp2
                refine start_ (n := 17) (S := fun w' => w'.cell? ⟨g, 1, none⟩ = some (.int .i64 gn1) ∧ w'.cell? ⟨w.heap.size, 2, none⟩ = some (.int .i64 pr) ∧ w'.cell? ⟨gl, o + 1, none⟩ = some (.int .i64 f1)) (ds := [16]) #[false, false, false, false, false, false, false, false, false, false, false, false, false, false, false, false, false] (by kernel_rfl) rfl rfl ⟨hc1, ht2, hx1⟩ (fun hHeld => ?_)
                refine pure_ (i := 0) (N := some 85) (v := ?_) (a' := ?_) #[true, false, false, false, false, false, false, false, false, false, false, false, false, false, false, false, false] rfl rfl (by kernel_rfl) (fun _ _ _ h => h) (Or.inl ⟨by rfl, ?_⟩) ?_ ?_
                rotate_left
                · intro w'
                  go_simp
                  with_reducible rfl
                rotate_left
                · simp only [Act.put, List.setIfInBounds_toArray, List.set_cons_zero, List.set_cons_succ, i64_w, i32_w]
                  rfl
                refine pure_ (i := 1) (N := some 86) (v := ?_) (a' := ?_) #[true, true, false, false, false, false, false, false, false, false, false, false, false, false, false, false, false] rfl rfl (by kernel_rfl) (fun _ _ _ h => h) (Or.inl ⟨by rfl, ?_⟩) ?_ ?_
                rotate_left
                · intro w'
                  go_simp
                  with_reducible rfl
                rotate_left
                · simp only [Act.put, List.setIfInBounds_toArray, List.set_cons_zero, List.set_cons_succ, i64_w, i32_w]
                  rfl
                refine pure_ (i := 2) (N := some 87) (v := ?_) (a' := ?_) #[true, true, true, false, false, false, false, false, false, false, false, false, false, false, false, false, false] rfl rfl (by kernel_rfl) (fun _ _ _ h => h) (Or.inl ⟨by rfl, ?_⟩) ?_ ?_
                rotate_left
                · intro w'
                  go_simp
                  with_reducible rfl
                rotate_left
                · simp only [Act.put, List.setIfInBounds_toArray, List.set_cons_zero, List.set_cons_succ, i64_w, i32_w]
                  rfl
                refine take_ (i := 3) (N := some 88) (v := ?_) (a' := ?_) #[true, true, true, true, false, false, false, false, false, false, false, false, false, false, false, false, false] rfl rfl (by kernel_rfl) (fun _ _ _ h => h) (Or.inl ⟨by rfl, ?_⟩) hHeld ?_ ?_
                rotate_left
                · rintro w' ⟨s0, s1, s2⟩
                  go_simp
                  with_reducible rfl
                rotate_left
                · simp only [Act.put, List.setIfInBounds_toArray, List.set_cons_zero, List.set_cons_succ, i64_w, i32_w]
                  rfl
                refine pure_ (i := 4) (N := some 89) (v := ?_) (a' := ?_) #[true, true, true, true, true, false, false, false, false, false, false, false, false, false, false, false, false] rfl rfl (by kernel_rfl) (fun _ _ _ h => h) (Or.inl ⟨by rfl, ?_⟩) ?_ ?_
                rotate_left
                · intro w'
                  go_simp
                  with_reducible rfl
                rotate_left
                · simp only [Act.put, List.setIfInBounds_toArray, List.set_cons_zero, List.set_cons_succ, i64_w, i32_w]
                  rfl
                refine pure_ (i := 5) (N := some 90) (v := ?_) (a' := ?_) #[true, true, true, true, true, true, false, false, false, false, false, false, false, false, false, false, false] rfl rfl (by kernel_rfl) (fun _ _ _ h => h) (Or.inl ⟨by rfl, ?_⟩) ?_ ?_
                rotate_left
                · intro w'
                  go_simp
                  with_reducible rfl
                rotate_left
                · simp only [Act.put, List.setIfInBounds_toArray, List.set_cons_zero, List.set_cons_succ, i64_w, i32_w]
                  rfl
                refine take_ (i := 6) (N := some 91) (v := ?_) (a' := ?_) #[true, true, true, true, true, true, true, false, false, false, false, false, false, false, false, false, false] rfl rfl (by kernel_rfl) (fun _ _ _ h => h) (Or.inl ⟨by rfl, ?_⟩) hHeld ?_ ?_
                rotate_left
                · rintro w' ⟨s0, s1, s2⟩
                  go_simp
                  with_reducible rfl
                rotate_left
                · simp only [Act.put, List.setIfInBounds_toArray, List.set_cons_zero, List.set_cons_succ, i64_w, i32_w]
                  rfl
                refine pure_ (i := 7) (N := some 92) (v := ?_) (a' := ?_) #[true, true, true, true, true, true, true, true, false, false, false, false, false, false, false, false, false] rfl rfl (by kernel_rfl) (fun _ _ _ h => h) (Or.inl ⟨by rfl, ?_⟩) ?_ ?_
                rotate_left
                · intro w'
                  go_simp
                  with_reducible rfl
                rotate_left
                · simp only [Act.put, List.setIfInBounds_toArray, List.set_cons_zero, List.set_cons_succ, i64_w, i32_w]
                  rfl
                refine pure_ (i := 8) (N := some 93) (v := ?_) (a' := ?_) #[true, true, true, true, true, true, true, true, true, false, false, false, false, false, false, false, false] rfl rfl (by kernel_rfl) (fun _ _ _ h => h) (Or.inl ⟨by rfl, ?_⟩) ?_ ?_
                rotate_left
                · intro w'
                  go_simp
                  with_reducible rfl
                rotate_left
                · simp only [Act.put, List.setIfInBounds_toArray, List.set_cons_zero, List.set_cons_succ, i64_w, i32_w]
                  rfl
                refine pure_ (i := 9) (N := some 94) (v := ?_) (a' := ?_) #[true, true, true, true, true, true, true, true, true, true, false, false, false, false, false, false, false] rfl rfl (by kernel_rfl) (fun _ _ _ h => h) (Or.inl ⟨by rfl, ?_⟩) ?_ ?_
                rotate_left
                · intro w'
                  go_simp
                  with_reducible rfl
                rotate_left
                · simp only [Act.put, List.setIfInBounds_toArray, List.set_cons_zero, List.set_cons_succ, i64_w, i32_w]
                  rfl
                refine take_ (i := 10) (N := some 95) (v := ?_) (a' := ?_) #[true, true, true, true, true, true, true, true, true, true, true, false, false, false, false, false, false] rfl rfl (by kernel_rfl) (fun _ _ _ h => h) (Or.inl ⟨by rfl, ?_⟩) hHeld ?_ ?_
                rotate_left
                · rintro w' ⟨s0, s1, s2⟩
                  go_simp
                  with_reducible rfl
                rotate_left
                · simp only [Act.put, List.setIfInBounds_toArray, List.set_cons_zero, List.set_cons_succ, i64_w, i32_w]
                  rfl
                refine pure_ (i := 11) (N := some 96) (v := ?_) (a' := ?_) #[true, true, true, true, true, true, true, true, true, true, true, true, false, false, false, false, false] rfl rfl (by kernel_rfl) (fun _ _ _ h => h) (Or.inl ⟨by rfl, ?_⟩) ?_ ?_
                rotate_left
                · intro w'
                  go_simp
                  with_reducible rfl
                rotate_left
                · simp only [Act.put, List.setIfInBounds_toArray, List.set_cons_zero, List.set_cons_succ, i64_w, i32_w]
                  rfl
                refine pure_ (i := 12) (N := some 97) (v := ?_) (a' := ?_) #[true, true, true, true, true, true, true, true, true, true, true, true, true, false, false, false, false] rfl rfl (by kernel_rfl) (fun _ _ _ h => h) (Or.inl ⟨by rfl, ?_⟩) ?_ ?_
                rotate_left
                · intro w'
                  go_simp
                  with_reducible rfl
                rotate_left
                · simp only [Act.put, List.setIfInBounds_toArray, List.set_cons_zero, List.set_cons_succ, i64_w, i32_w]
                  rfl
                refine pure_ (i := 13) (N := some 98) (v := ?_) (a' := ?_) #[true, true, true, true, true, true, true, true, true, true, true, true, true, true, false, false, false] rfl rfl (by kernel_rfl) (fun _ _ _ h => h) (Or.inl ⟨by rfl, ?_⟩) ?_ ?_
                rotate_left
                · intro w'
                  go_simp
                  with_reducible rfl
                rotate_left
                · simp only [Act.put, List.setIfInBounds_toArray, List.set_cons_zero, List.set_cons_succ, i64_w, i32_w]
                  rfl
                refine pure_ (i := 14) (N := some 99) (v := ?_) (a' := ?_) #[true, true, true, true, true, true, true, true, true, true, true, true, true, true, true, false, false] rfl rfl (by kernel_rfl) (fun _ _ _ h => h) (Or.inl ⟨by rfl, ?_⟩) ?_ ?_
                rotate_left
                · intro w'
                  go_simp
                  with_reducible rfl
                rotate_left
                · simp only [Act.put, List.setIfInBounds_toArray, List.set_cons_zero, List.set_cons_succ, i64_w, i32_w]
                  rfl
                refine pure_ (i := 15) (N := some 100) (v := ?_) (a' := ?_) #[true, true, true, true, true, true, true, true, true, true, true, true, true, true, true, true, false] rfl rfl (by kernel_rfl) (fun _ _ _ h => h) (Or.inl ⟨by rfl, ?_⟩) ?_ ?_
                rotate_left
                · intro w'
                  go_simp
                  with_reducible rfl
                rotate_left
                · simp only [Act.put, List.setIfInBounds_toArray, List.set_cons_zero, List.set_cons_succ, i64_w, i32_w]
                  rfl
                refine last_ (i := 16) (N := none) #[true, true, true, true, true, true, true, true, true, true, true, true, true, true, true, true, true] rfl rfl (by kernel_rfl) (by decide) (fun K hK => ?_)
                refine skip_ (w1 := ?_) (by rfl) rfl ?_ ?_
                rotate_left
                · go_simp
                  rfl
                refine hK.out _ _ ?_
                clear hK K
                refine done_ (by kernel_rfl) ?_
                go_wp2
                go_roundg (l.length + 1)
                case measure =>
                  have := HGG.out
                  simp only [List.length_cons, if_neg c0] at this
                  omega
                case rel =>
                  have hfin := fun k x y z => impl_queueOf.fin (x := x) (y := y) (z := z) k hB hBw hBl HQB.out HTB.out HQ1.out HB.out hne1 hne3 hne5
                  have hgb : -1000000000000 ≤ gn1 ∧ gn1 ≤ 1000000000000 := by have := HG1.out; omega
                  exact impl_queueOf.rel_drop HCL.out (by omega) hm1 hp.2.2 hpr HG1.out HPL.out HLS1.out (by omega) (impl_queueOf.gDD hp.1 hgb hpr hp.2.2) (blk_far (hfin _ _ _ _).2.1 (p := ⟨g, 0, none⟩) hne4 _) (impl_queueOf.dropSt1 (hfin _ _ _ _).1 (hfin _ _ _ _).2.2.1 ) ((hfin _ _ _ _).2.2.2.setCell hB _)
              · have hcap2 : 1 < cap := by omega
                have HG1 := Aside0.mk hG1
                clear hG1
                go_wp2
                go_quiet (fail)
                go_wp2
                go_quiet (fail)
                go_wp2
                refine start_ (n := 17) (S := fun w' => w'.cell? ⟨g, 1, none⟩ = some (.int .i64 gn1) ∧ w'.cell? ⟨w.heap.size, 2, none⟩ = some (.int .i64 pr) ∧ w'.cell? ⟨gl, o + 1, none⟩ = some (.int .i64 f1)) (ds := [16]) #[false, false, false, false, false, false, false, false, false, false, false, false, false, false, false, false, false] (by kernel_rfl) rfl rfl ⟨hc1, ht2, hx1⟩ (fun hHeld => ?_)
                refine pure_ (i := 0) (N := some 85) (v := ?_) (a' := ?_) #[true, false, false, false, false, false, false, false, false, false, false, false, false, false, false, false, false] rfl rfl (by kernel_rfl) (fun _ _ _ h => h) (Or.inl ⟨by rfl, ?_⟩) ?_ ?_
                rotate_left
                · intro w'
                  go_simp
                  with_reducible rfl
                rotate_left
                · simp only [Act.put, List.setIfInBounds_toArray, List.set_cons_zero, List.set_cons_succ, i64_w, i32_w]
                  rfl
                refine pure_ (i := 1) (N := some 86) (v := ?_) (a' := ?_) #[true, true, false, false, false, false, false, false, false, false, false, false, false, false, false, false, false] rfl rfl (by kernel_rfl) (fun _ _ _ h => h) (Or.inl ⟨by rfl, ?_⟩) ?_ ?_
                rotate_left
                · intro w'
                  go_simp
                  with_reducible rfl
                rotate_left
                · simp only [Act.put, List.setIfInBounds_toArray, List.set_cons_zero, List.set_cons_succ, i64_w, i32_w]
                  rfl
                refine pure_ (i := 2) (N := some 87) (v := ?_) (a' := ?_) #[true, true, true, false, false, false, false, false, false, false, false, false, false, false, false, false, false] rfl rfl (by kernel_rfl) (fun _ _ _ h => h) (Or.inl ⟨by rfl, ?_⟩) ?_ ?_
                rotate_left
                · intro w'
                  go_simp
                  with_reducible rfl
                rotate_left
                · simp only [Act.put, List.setIfInBounds_toArray, List.set_cons_zero, List.set_cons_succ, i64_w, i32_w]
                  rfl
                refine take_ (i := 3) (N := some 88) (v := ?_) (a' := ?_) #[true, true, true, true, false, false, false, false, false, false, false, false, false, false, false, false, false] rfl rfl (by kernel_rfl) (fun _ _ _ h => h) (Or.inl ⟨by rfl, ?_⟩) hHeld ?_ ?_
                rotate_left
                · rintro w' ⟨s0, s1, s2⟩
                  go_simp
                  with_reducible rfl
                rotate_left
                · simp only [Act.put, List.setIfInBounds_toArray, List.set_cons_zero, List.set_cons_succ, i64_w, i32_w]
                  rfl
                refine pure_ (i := 4) (N := some 89) (v := ?_) (a' := ?_) #[true, true, true, true, true, false, false, false, false, false, false, false, false, false, false, false, false] rfl rfl (by kernel_rfl) (fun _ _ _ h => h) (Or.inl ⟨by rfl, ?_⟩) ?_ ?_
                rotate_left
                · intro w'
                  go_simp
                  with_reducible rfl
                rotate_left
                · simp only [Act.put, List.setIfInBounds_toArray, List.set_cons_zero, List.set_cons_succ, i64_w, i32_w]
                  rfl
                refine pure_ (i := 5) (N := some 90) (v := ?_) (a' := ?_) #[true, true, true, true, true, true, false, false, false, false, false, false, false, false, false, false, false] rfl rfl (by kernel_rfl) (fun _ _ _ h => h) (Or.inl ⟨by rfl, ?_⟩) ?_ ?_
                rotate_left
                · intro w'
                  go_simp
                  with_reducible rfl
                rotate_left
                · simp only [Act.put, List.setIfInBounds_toArray, List.set_cons_zero, List.set_cons_succ, i64_w, i32_w]
                  rfl
                refine take_ (i := 6) (N := some 91) (v := ?_) (a' := ?_) #[true, true, true, true, true, true, true, false, false, false, false, false, false, false, false, false, false] rfl rfl (by kernel_rfl) (fun _ _ _ h => h) (Or.inl ⟨by rfl, ?_⟩) hHeld ?_ ?_
                rotate_left
                · rintro w' ⟨s0, s1, s2⟩
                  go_simp
                  with_reducible rfl
                rotate_left
                · simp only [Act.put, List.setIfInBounds_toArray, List.set_cons_zero, List.set_cons_succ, i64_w, i32_w]
                  rfl
                refine pure_ (i := 7) (N := some 92) (v := ?_) (a' := ?_) #[true, true, true, true, true, true, true, true, false, false, false, false, false, false, false, false, false] rfl rfl (by kernel_rfl) (fun _ _ _ h => h) (Or.inl ⟨by rfl, ?_⟩) ?_ ?_
                rotate_left
                · intro w'
                  go_simp
                  with_reducible rfl
                rotate_left
                · simp only [Act.put, List.setIfInBounds_toArray, List.set_cons_zero, List.set_cons_succ, i64_w, i32_w]
                  rfl
                refine pure_ (i := 8) (N := some 93) (v := ?_) (a' := ?_) #[true, true, true, true, true, true, true, true, true, false, false, false, false, false, false, false, false] rfl rfl (by kernel_rfl) (fun _ _ _ h => h) (Or.inl ⟨by rfl, ?_⟩) ?_ ?_
                rotate_left
                · intro w'
                  go_simp
                  with_reducible rfl
                rotate_left
                · simp only [Act.put, List.setIfInBounds_toArray, List.set_cons_zero, List.set_cons_succ, i64_w, i32_w]
                  rfl
                refine pure_ (i := 9) (N := some 94) (v := ?_) (a' := ?_) #[true, true, true, true, true, true, true, true, true, true, false, false, false, false, false, false, false] rfl rfl (by kernel_rfl) (fun _ _ _ h => h) (Or.inl ⟨by rfl, ?_⟩) ?_ ?_
                rotate_left
                · intro w'
                  go_simp
                  with_reducible rfl
                rotate_left
                · simp only [Act.put, List.setIfInBounds_toArray, List.set_cons_zero, List.set_cons_succ, i64_w, i32_w]
                  rfl
                refine take_ (i := 10) (N := some 95) (v := ?_) (a' := ?_) #[true, true, true, true, true, true, true, true, true, true, true, false, false, false, false, false, false] rfl rfl (by kernel_rfl) (fun _ _ _ h => h) (Or.inl ⟨by rfl, ?_⟩) hHeld ?_ ?_
                rotate_left
                · rintro w' ⟨s0, s1, s2⟩
                  go_simp
                  with_reducible rfl
                rotate_left
                · simp only [Act.put, List.setIfInBounds_toArray, List.set_cons_zero, List.set_cons_succ, i64_w, i32_w]
                  rfl
                refine pure_ (i := 11) (N := some 96) (v := ?_) (a' := ?_) #[true, true, true, true, true, true, true, true, true, true, true, true, false, false, false, false, false] rfl rfl (by kernel_rfl) (fun _ _ _ h => h) (Or.inl ⟨by rfl, ?_⟩) ?_ ?_
                rotate_left
                · intro w'
                  go_simp
                  with_reducible rfl
                rotate_left
                · simp only [Act.put, List.setIfInBounds_toArray, List.set_cons_zero, List.set_cons_succ, i64_w, i32_w]
                  rfl
                refine pure_ (i := 12) (N := some 97) (v := ?_) (a' := ?_) #[true, true, true, true, true, true, true, true, true, true, true, true, true, false, false, false, false] rfl rfl (by kernel_rfl) (fun _ _ _ h => h) (Or.inl ⟨by rfl, ?_⟩) ?_ ?_
                rotate_left
                · intro w'
                  go_simp
                  with_reducible rfl
                rotate_left
                · simp only [Act.put, List.setIfInBounds_toArray, List.set_cons_zero, List.set_cons_succ, i64_w, i32_w]
                  rfl
                refine pure_ (i := 13) (N := some 98) (v := ?_) (a' := ?_) #[true, true, true, true, true, true, true, true, true, true, true, true, true, true, false, false, false] rfl rfl (by kernel_rfl) (fun _ _ _ h => h) (Or.inl ⟨by rfl, ?_⟩) ?_ ?_
                rotate_left
                · intro w'
                  go_simp
                  with_reducible rfl
                rotate_left
                · simp only [Act.put, List.setIfInBounds_toArray, List.set_cons_zero, List.set_cons_succ, i64_w, i32_w]
                  rfl
                refine pure_ (i := 14) (N := some 99) (v := ?_) (a' := ?_) #[true, true, true, true, true, true, true, true, true, true, true, true, true, true, true, false, false] rfl rfl (by kernel_rfl) (fun _ _ _ h => h) (Or.inl ⟨by rfl, ?_⟩) ?_ ?_
                rotate_left
                · intro w'
                  go_simp
                  with_reducible rfl
                rotate_left
                · simp only [Act.put, List.setIfInBounds_toArray, List.set_cons_zero, List.set_cons_succ, i64_w, i32_w]
                  rfl
                refine pure_ (i := 15) (N := some 100) (v := ?_) (a' := ?_) #[true, true, true, true, true, true, true, true, true, true, true, true, true, true, true, true, false] rfl rfl (by kernel_rfl) (fun _ _ _ h => h) (Or.inl ⟨by rfl, ?_⟩) ?_ ?_
                rotate_left
                · intro w'
                  go_simp
                  with_reducible rfl
                rotate_left
                · simp only [Act.put, List.setIfInBounds_toArray, List.set_cons_zero, List.set_cons_succ, i64_w, i32_w]
                  rfl
                refine last_ (i := 16) (N := none) #[true, true, true, true, true, true, true, true, true, true, true, true, true, true, true, true, true] rfl rfl (by kernel_rfl) (by decide) (fun K hK => ?_)
                refine skip_ (w1 := ?_) (by rfl) rfl ?_ ?_
                rotate_left
                · go_simp
                  rfl
                refine hK.out _ _ ?_
                clear hK K
                refine done_ (by kernel_rfl) ?_
                go_wp2
                go_roundg (l.length + 1)
                case measure =>
                  have := HGG.out
                  simp only [List.length_cons, if_neg c0] at this
                  omega
                case rel =>
                  have hfin := fun k x y z => impl_queueOf.fin (x := x) (y := y) (z := z) k hB hBw hBl HQB.out HTB.out HQ1.out HB.out hne1 hne3 hne5
                  have hgb : -1000000000000 ≤ gn1 ∧ gn1 ≤ 1000000000000 := by have := HG1.out; omega
                  exact impl_queueOf.rel_drop HCL.out (by omega) hm1 hp.2.2 hpr HG1.out HPL.out HLS1.out (by omega) (impl_queueOf.gDD hp.1 hgb hpr hp.2.2) (blk_far (hfin _ _ _ _).2.1 (p := ⟨g, 0, none⟩) hne4 _) (impl_queueOf.dropSt (hfin _ _ _ _).1 (hfin _ _ _ _).2.2.1 hcap) ((hfin _ _ _ _).2.2.2.setCell hB _)
            · have HG1 := Aside0.mk hG1
              clear hG1
              go_wp2
              go_quiet (fail)
              go_wp2
              go_quiet (fail)
              go_wp2
              refine start_ (n := 17) (S := fun w' => w'.cell? ⟨g, 1, none⟩ = some (.int .i64 gn1) ∧ w'.cell? ⟨w.heap.size, 2, none⟩ = some (.int .i64 pr) ∧ w'.cell? ⟨gl, o + 1, none⟩ = some (.int .i64 f1)) (ds := [16]) #[false, false, false, false, false, false, false, false, false, false, false, false, false, false, false, false, false] (by kernel_rfl) rfl rfl ⟨hc1, ht2, hx1⟩ (fun hHeld => ?_)
              refine pure_ (i := 0) (N := some 85) (v := ?_) (a' := ?_) #[true, false, false, false, false, false, false, false, false, false, false, false, false, false, false, false, false] rfl rfl (by kernel_rfl) (fun _ _ _ h => h) (Or.inl ⟨by rfl, ?_⟩) ?_ ?_
              rotate_left
              · intro w'
                go_simp
                with_reducible rfl
              rotate_left
              · simp only [Act.put, List.setIfInBounds_toArray, List.set_cons_zero, List.set_cons_succ, i64_w, i32_w]
                rfl
              refine pure_ (i := 1) (N := some 86) (v := ?_) (a' := ?_) #[true, true, false, false, false, false, false, false, false, false, false, false, false, false, false, false, false] rfl rfl (by kernel_rfl) (fun _ _ _ h => h) (Or.inl ⟨by rfl, ?_⟩) ?_ ?_
              rotate_left
              · intro w'
                go_simp
                with_reducible rfl
              rotate_left
              · simp only [Act.put, List.setIfInBounds_toArray, List.set_cons_zero, List.set_cons_succ, i64_w, i32_w]
                rfl
              refine pure_ (i := 2) (N := some 87) (v := ?_) (a' := ?_) #[true, true, true, false, false, false, false, false, false, false, false, false, false, false, false, false, false] rfl rfl (by kernel_rfl) (fun _ _ _ h => h) (Or.inl ⟨by rfl, ?_⟩) ?_ ?_
              rotate_left
              · intro w'
                go_simp
                with_reducible rfl
              rotate_left
              · simp only [Act.put, List.setIfInBounds_toArray, List.set_cons_zero, List.set_cons_succ, i64_w, i32_w]
                rfl
              refine take_ (i := 3) (N := some 88) (v := ?_) (a' := ?_) #[true, true, true, true, false, false, false, false, false, false, false, false, false, false, false, false, false] rfl rfl (by kernel_rfl) (fun _ _ _ h => h) (Or.inl ⟨by rfl, ?_⟩) hHeld ?_ ?_
              rotate_left
              · rintro w' ⟨s0, s1, s2⟩
                go_simp
                with_reducible rfl
              rotate_left
              · simp only [Act.put, List.setIfInBounds_toArray, List.set_cons_zero, List.set_cons_succ, i64_w, i32_w]
                rfl
              refine pure_ (i := 4) (N := some 89) (v := ?_) (a' := ?_) #[true, true, true, true, true, false, false, false, false, false, false, false, false, false, false, false, false] rfl rfl (by kernel_rfl) (fun _ _ _ h => h) (Or.inl ⟨by rfl, ?_⟩) ?_ ?_
              rotate_left
              · intro w'
                go_simp
                with_reducible rfl
              rotate_left
              · simp only [Act.put, List.setIfInBounds_toArray, List.set_cons_zero, List.set_cons_succ, i64_w, i32_w]
                rfl
              refine pure_ (i := 5) (N := some 90) (v := ?_) (a' := ?_) #[true, true, true, true, true, true, false, false, false, false, false, false, false, false, false, false, false] rfl rfl (by kernel_rfl) (fun _ _ _ h => h) (Or.inl ⟨by rfl, ?_⟩) ?_ ?_
              rotate_left
              · intro w'
                go_simp
                with_reducible rfl
              rotate_left
              · simp only [Act.put, List.setIfInBounds_toArray, List.set_cons_zero, List.set_cons_succ, i64_w, i32_w]
                rfl
              refine take_ (i := 6) (N := some 91) (v := ?_) (a' := ?_) #[true, true, true, true, true, true, true, false, false, false, false, false, false, false, false, false, false] rfl rfl (by kernel_rfl) (fun _ _ _ h => h) (Or.inl ⟨by rfl, ?_⟩) hHeld ?_ ?_
              rotate_left
              · rintro w' ⟨s0, s1, s2⟩
                go_simp
                with_reducible rfl
              rotate_left
              · simp only [Act.put, List.setIfInBounds_toArray, List.set_cons_zero, List.set_cons_succ, i64_w, i32_w]
                rfl
              refine pure_ (i := 7) (N := some 92) (v := ?_) (a' := ?_) #[true, true, true, true, true, true, true, true, false, false, false, false, false, false, false, false, false] rfl rfl (by kernel_rfl) (fun _ _ _ h => h) (Or.inl ⟨by rfl, ?_⟩) ?_ ?_
              rotate_left
              · intro w'
                go_simp
                with_reducible rfl
              rotate_left
              · simp only [Act.put, List.setIfInBounds_toArray, List.set_cons_zero, List.set_cons_succ, i64_w, i32_w]
                rfl
              refine pure_ (i := 8) (N := some 93) (v := ?_) (a' := ?_) #[true, true, true, true, true, true, true, true, true, false, false, false, false, false, false, false, false] rfl rfl (by kernel_rfl) (fun _ _ _ h => h) (Or.inl ⟨by rfl, ?_⟩) ?_ ?_
              rotate_left
              · intro w'
                go_simp
                with_reducible rfl
              rotate_left
              · simp only [Act.put, List.setIfInBounds_toArray, List.set_cons_zero, List.set_cons_succ, i64_w, i32_w]
                rfl
              refine pure_ (i := 9) (N := some 94) (v := ?_) (a' := ?_) #[true, true, true, true, true, true, true, true, true, true, false, false, false, false, false, false, false] rfl rfl (by kernel_rfl) (fun _ _ _ h => h) (Or.inl ⟨by rfl, ?_⟩) ?_ ?_
              rotate_left
              · intro w'
                go_simp
                with_reducible rfl
              rotate_left
              · simp only [Act.put, List.setIfInBounds_toArray, List.set_cons_zero, List.set_cons_succ, i64_w, i32_w]
                rfl
              refine take_ (i := 10) (N := some 95) (v := ?_) (a' := ?_) #[true, true, true, true, true, true, true, true, true, true, true, false, false, false, false, false, false] rfl rfl (by kernel_rfl) (fun _ _ _ h => h) (Or.inl ⟨by rfl, ?_⟩) hHeld ?_ ?_
              rotate_left
              · rintro w' ⟨s0, s1, s2⟩
                go_simp
                with_reducible rfl
              rotate_left
              · simp only [Act.put, List.setIfInBounds_toArray, List.set_cons_zero, List.set_cons_succ, i64_w, i32_w]
                rfl
              refine pure_ (i := 11) (N := some 96) (v := ?_) (a' := ?_) #[true, true, true, true, true, true, true, true, true, true, true, true, false, false, false, false, false] rfl rfl (by kernel_rfl) (fun _ _ _ h => h) (Or.inl ⟨by rfl, ?_⟩) ?_ ?_
              rotate_left
              · intro w'
                go_simp
                with_reducible rfl
              rotate_left
              · simp only [Act.put, List.setIfInBounds_toArray, List.set_cons_zero, List.set_cons_succ, i64_w, i32_w]
                rfl
              refine pure_ (i := 12) (N := some 97) (v := ?_) (a' := ?_) #[true, true, true, true, true, true, true, true, true, true, true, true, true, false, false, false, false] rfl rfl (by kernel_rfl) (fun _ _ _ h => h) (Or.inl ⟨by rfl, ?_⟩) ?_ ?_
              rotate_left
              · intro w'
                go_simp
                with_reducible rfl
              rotate_left
              · simp only [Act.put, List.setIfInBounds_toArray, List.set_cons_zero, List.set_cons_succ, i64_w, i32_w]
                rfl
              refine pure_ (i := 13) (N := some 98) (v := ?_) (a' := ?_) #[true, true, true, true, true, true, true, true, true, true, true, true, true, true, false, false, false] rfl rfl (by kernel_rfl) (fun _ _ _ h => h) (Or.inl ⟨by rfl, ?_⟩) ?_ ?_
              rotate_left
              · intro w'
                go_simp
                with_reducible rfl
              rotate_left
              · simp only [Act.put, List.setIfInBounds_toArray, List.set_cons_zero, List.set_cons_succ, i64_w, i32_w]
                rfl
              refine pure_ (i := 14) (N := some 99) (v := ?_) (a' := ?_) #[true, true, true, true, true, true, true, true, true, true, true, true, true, true, true, false, false] rfl rfl (by kernel_rfl) (fun _ _ _ h => h) (Or.inl ⟨by rfl, ?_⟩) ?_ ?_
              rotate_left
              · intro w'
                go_simp
                with_reducible rfl
              rotate_left
              · simp only [Act.put, List.setIfInBounds_toArray, List.set_cons_zero, List.set_cons_succ, i64_w, i32_w]
                rfl
              refine pure_ (i := 15) (N := some 100) (v := ?_) (a' := ?_) #[true, true, true, true, true, true, true, true, true, true, true, true, true, true, true, true, false] rfl rfl (by kernel_rfl) (fun _ _ _ h => h) (Or.inl ⟨by rfl, ?_⟩) ?_ ?_
              rotate_left
              · intro w'
                go_simp
                with_reducible rfl
              rotate_left
              · simp only [Act.put, List.setIfInBounds_toArray, List.set_cons_zero, List.set_cons_succ, i64_w, i32_w]
                rfl
              refine last_ (i := 16) (N := none) #[true, true, true, true, true, true, true, true, true, true, true, true, true, true, true, true, true] rfl rfl (by kernel_rfl) (by decide) (fun K hK => ?_)
              refine skip_ (w1 := ?_) (by rfl) rfl ?_ ?_
              rotate_left
              · go_simp
                rfl
              refine hK.out _ _ ?_
              clear hK K
              refine done_ (by kernel_rfl) ?_
              go_wp2
              go_roundg (l.length + 1)
              case measure =>
                have := HGG.out
                simp only [List.length_cons, if_neg c0] at this
                omega
              case rel =>
                have hfin := fun k x y z => impl_queueOf.fin (x := x) (y := y) (z := z) k hB hBw hBl HQB.out HTB.out HQ1.out HB.out hne1 hne3 hne5
                have hgb : -1000000000000 ≤ gn1 ∧ gn1 ≤ 1000000000000 := by have := HG1.out; omega
                exact impl_queueOf.rel_part HCL.out (by omega) hm1 hp.2.2 hp.1 hpr HG1.out HPL.out HLS1.out (by omega) (by omega) (impl_queueOf.gDP hm1 hgb hpr hp.2.2) (hfin _ _ _ _).2.1 ⟨_, (hfin _ _ _ _).1, (hfin _ _ _ _).2.2.1⟩ (hfin _ _ _ _).2.2.2
        · have hs1 : decide (0 < f0) = false := decide_eq_false s1
          by_cases s2 : 0 < m1
          · have hs2 : decide (0 < m1) = true := decide_eq_true s2
            by_cases h3 : -f0 ≤ m1
            · by_cases hcap : cap = 1
              · have hcap2 : n = 1 := by omega
                subst hcap
                subst hcap2
                clear hd0 hni hnz hn1
                have HG1 := Aside0.mk hG1
                clear hG1
                go_wp2
                go_quiet (fail)
                go_wp2
                go_quiet (fail)
                go_wp2
                refine start_ (n := 17) (S := fun w' => w'.cell? ⟨g, 1, none⟩ = some (.int .i64 gn1) ∧ w'.cell? ⟨w.heap.size, 2, none⟩ = some (.int .i64 pr) ∧ w'.cell? ⟨gl, o + 1, none⟩ = some (.int .i64 f1)) (ds := [16]) #[false, false, false, false, false, false, false, false, false, false, false, false, false, false, false, false, false] (by kernel_rfl) rfl rfl ⟨hc1, ht2, hx1⟩ (fun hHeld => ?_)
                refine pure_ (i := 0) (N := some 56) (v := ?_) (a' := ?_) #[true, false, false, false, false, false, false, false, false, false, false, false, false, false, false, false, false] rfl rfl (by kernel_rfl) (fun _ _ _ h => h) (Or.inl ⟨by rfl, ?_⟩) ?_ ?_
                rotate_left
                · intro w'
                  go_simp
                  with_reducible rfl
                rotate_left
                · simp only [Act.put, List.setIfInBounds_toArray, List.set_cons_zero, List.set_cons_succ, i64_w, i32_w]
                  rfl
                refine pure_ (i := 1) (N := some 57) (v := ?_) (a' := ?_) #[true, true, false, false, false, false, false, false, false, false, false, false, false, false, false, false, false] rfl rfl (by kernel_rfl) (fun _ _ _ h => h) (Or.inl ⟨by rfl, ?_⟩) ?_ ?_
                rotate_left
                · intro w'
                  go_simp
                  with_reducible rfl
                rotate_left
                · simp only [Act.put, List.setIfInBounds_toArray, List.set_cons_zero, List.set_cons_succ, i64_w, i32_w]
                  rfl
                refine pure_ (i := 2) (N := some 58) (v := ?_) (a' := ?_) #[true, true, true, false, false, false, false, false, false, false, false, false, false, false, false, false, false] rfl rfl (by kernel_rfl) (fun _ _ _ h => h) (Or.inl ⟨by rfl, ?_⟩) ?_ ?_
                rotate_left
                · intro w'
                  go_simp
                  with_reducible rfl
                rotate_left
                · simp only [Act.put, List.setIfInBounds_toArray, List.set_cons_zero, List.set_cons_succ, i64_w, i32_w]
                  rfl
                refine take_ (i := 3) (N := some 59) (v := ?_) (a' := ?_) #[true, true, true, true, false, false, false, false, false, false, false, false, false, false, false, false, false] rfl rfl (by kernel_rfl) (fun _ _ _ h => h) (Or.inl ⟨by rfl, ?_⟩) hHeld ?_ ?_
                rotate_left
                · rintro w' ⟨s0, s1, s2⟩
                  go_simp
                  with_reducible rfl
                rotate_left
                · simp only [Act.put, List.setIfInBounds_toArray, List.set_cons_zero, List.set_cons_succ, i64_w, i32_w]
                  rfl
                refine pure_ (i := 4) (N := some 60) (v := ?_) (a' := ?_) #[true, true, true, true, true, false, false, false, false, false, false, false, false, false, false, false, false] rfl rfl (by kernel_rfl) (fun _ _ _ h => h) (Or.inl ⟨by rfl, ?_⟩) ?_ ?_
                rotate_left
                · intro w'
                  go_simp
                  with_reducible rfl
                rotate_left
                · simp only [Act.put, List.setIfInBounds_toArray, List.set_cons_zero, List.set_cons_succ, i64_w, i32_w]
                  rfl
                refine pure_ (i := 5) (N := some 61) (v := ?_) (a' := ?_) #[true, true, true, true, true, true, false, false, false, false, false, false, false, false, false, false, false] rfl rfl (by kernel_rfl) (fun _ _ _ h => h) (Or.inl ⟨by rfl, ?_⟩) ?_ ?_
                rotate_left
                · intro w'
                  go_simp
                  with_reducible rfl
                rotate_left
                · simp only [Act.put, List.setIfInBounds_toArray, List.set_cons_zero, List.set_cons_succ, i64_w, i32_w]
                  rfl
                refine pure_ (i := 6) (N := some 62) (v := ?_) (a' := ?_) #[true, true, true, true, true, true, true, false, false, false, false, false, false, false, false, false, false] rfl rfl (by kernel_rfl) (fun _ _ _ h => h) (Or.inl ⟨by rfl, ?_⟩) ?_ ?_
                rotate_left
                · intro w'
                  go_simp
                  with_reducible rfl
                rotate_left
                · simp only [Act.put, List.setIfInBounds_toArray, List.set_cons_zero, List.set_cons_succ, i64_w, i32_w]
                  rfl
                refine pure_ (i := 7) (N := some 63) (v := ?_) (a' := ?_) #[true, true, true, true, true, true, true, true, false, false, false, false, false, false, false, false, false] rfl rfl (by kernel_rfl) (fun _ _ _ h => h) (Or.inl ⟨by rfl, ?_⟩) ?_ ?_
                rotate_left
                · intro w'
                  go_simp
                  with_reducible rfl
                rotate_left
                · simp only [Act.put, List.setIfInBounds_toArray, List.set_cons_zero, List.set_cons_succ, i64_w, i32_w]
                  rfl
                refine take_ (i := 8) (N := some 64) (v := ?_) (a' := ?_) #[true, true, true, true, true, true, true, true, true, false, false, false, false, false, false, false, false] rfl rfl (by kernel_rfl) (fun _ _ _ h => h) (Or.inl ⟨by rfl, ?_⟩) hHeld ?_ ?_
                rotate_left
                · rintro w' ⟨s0, s1, s2⟩
                  go_simp
                  with_reducible rfl
                rotate_left
                · simp only [Act.put, List.setIfInBounds_toArray, List.set_cons_zero, List.set_cons_succ, i64_w, i32_w]
                  rfl
                refine pure_ (i := 9) (N := some 65) (v := ?_) (a' := ?_) #[true, true, true, true, true, true, true, true, true, true, false, false, false, false, false, false, false] rfl rfl (by kernel_rfl) (fun _ _ _ h => h) (Or.inl ⟨by rfl, ?_⟩) ?_ ?_
                rotate_left
                · intro w'
                  go_simp
                  with_reducible rfl
                rotate_left
                · simp only [Act.put, List.setIfInBounds_toArray, List.set_cons_zero, List.set_cons_succ, i64_w, i32_w]
                  rfl
                refine take_ (i := 10) (N := some 66) (v := ?_) (a' := ?_) #[true, true, true, true, true, true, true, true, true, true, true, false, false, false, false, false, false] rfl rfl (by kernel_rfl) (fun _ _ _ h => h) (Or.inl ⟨by rfl, ?_⟩) hHeld ?_ ?_
                rotate_left
                · rintro w' ⟨s0, s1, s2⟩
                  go_simp
                  with_reducible rfl
                rotate_left
                · simp only [Act.put, List.setIfInBounds_toArray, List.set_cons_zero, List.set_cons_succ, i64_w, i32_w]
                  rfl
                refine pure_ (i := 11) (N := some 67) (v := ?_) (a' := ?_) #[true, true, true, true, true, true, true, true, true, true, true, true, false, false, false, false, false] rfl rfl (by kernel_rfl) (fun _ _ _ h => h) (Or.inl ⟨by rfl, ?_⟩) ?_ ?_
                rotate_left
                · intro w'
                  go_simp
                  with_reducible rfl
                rotate_left
                · simp only [Act.put, List.setIfInBounds_toArray, List.set_cons_zero, List.set_cons_succ, i64_w, i32_w]
                  rfl
                refine pure_ (i := 12) (N := some 68) (v := ?_) (a' := ?_) #[true, true, true, true, true, true, true, true, true, true, true, true, true, false, false, false, false] rfl rfl (by kernel_rfl) (fun _ _ _ h => h) (Or.inl ⟨by rfl, ?_⟩) ?_ ?_
                rotate_left
                · intro w'
                  go_simp
                  with_reducible rfl
                rotate_left
                · simp only [Act.put, List.setIfInBounds_toArray, List.set_cons_zero, List.set_cons_succ, i64_w, i32_w]
                  rfl
                refine pure_ (i := 13) (N := some 69) (v := ?_) (a' := ?_) #[true, true, true, true, true, true, true, true, true, true, true, true, true, true, false, false, false] rfl rfl (by kernel_rfl) (fun _ _ _ h => h) (Or.inl ⟨by rfl, ?_⟩) ?_ ?_
                rotate_left
                · intro w'
                  go_simp
                  with_reducible rfl
                rotate_left
                · simp only [Act.put, List.setIfInBounds_toArray, List.set_cons_zero, List.set_cons_succ, i64_w, i32_w]
                  rfl
                refine pure_ (i := 14) (N := some 70) (v := ?_) (a' := ?_) #[true, true, true, true, true, true, true, true, true, true, true, true, true, true, true, false, false] rfl rfl (by kernel_rfl) (fun _ _ _ h => h) (Or.inl ⟨by rfl, ?_⟩) ?_ ?_
                rotate_left
                · intro w'
                  go_simp
                  with_reducible rfl
                rotate_left
                · simp only [Act.put, List.setIfInBounds_toArray, List.set_cons_zero, List.set_cons_succ, i64_w, i32_w]
                  rfl
                refine pure_ (i := 15) (N := some 71) (v := ?_) (a' := ?_) #[true, true, true, true, true, true, true, true, true, true, true, true, true, true, true, true, false] rfl rfl (by kernel_rfl) (fun _ _ _ h => h) (Or.inl ⟨by rfl, ?_⟩) ?_ ?_
                rotate_left
                · intro w'
                  go_simp
                  with_reducible rfl
                rotate_left
                · simp only [Act.put, List.setIfInBounds_toArray, List.set_cons_zero, List.set_cons_succ, i64_w, i32_w]
                  rfl
                refine last_ (i := 16) (N := none) #[true, true, true, true, true, true, true, true, true, true, true, true, true, true, true, true, true] rfl rfl (by kernel_rfl) (by decide) (fun K hK => ?_)
                refine skip_ (w1 := ?_) (by rfl) rfl ?_ ?_
                rotate_left
                · go_simp
                  rfl
                refine hK.out _ _ ?_
                clear hK K
                refine done_ (by kernel_rfl) ?_
                go_wp2
                go_roundg (l.length + 1)
                case measure =>
                  have := HGG.out
                  simp only [List.length_cons, if_neg c0] at this
                  omega
                case rel =>
                  have hfin := fun k x y z => impl_queueOf.fin (x := x) (y := y) (z := z) k hB hBw hBl HQB.out HTB.out HQ1.out HB.out hne1 hne3 hne5
                  have hgb : -1000000000000 ≤ gn1 ∧ gn1 ≤ 1000000000000 := by have := HG1.out; omega
                  exact impl_queueOf.rel_drop HCL.out (by omega) hm1 hp.2.2 hpr HG1.out HPL.out HLS1.out (by omega) (impl_queueOf.gUD hp.1 hgb hpr hp.2.2) (blk_far (hfin _ _ _ _).2.1 (p := ⟨g, 0, none⟩) hne4 _) (impl_queueOf.dropSt1 (hfin _ _ _ _).1 (hfin _ _ _ _).2.2.1 ) ((hfin _ _ _ _).2.2.2.setCell hB _)
              · have hcap2 : 1 < cap := by omega
                have HG1 := Aside0.mk hG1
                clear hG1
                go_wp2
                go_quiet (fail)
                go_wp2
                go_quiet (fail)
                go_wp2
                refine start_ (n := 17) (S := fun w' => w'.cell? ⟨g, 1, none⟩ = some (.int .i64 gn1) ∧ w'.cell? ⟨w.heap.size, 2, none⟩ = some (.int .i64 pr) ∧ w'.cell? ⟨gl, o + 1, none⟩ = some (.int .i64 f1)) (ds := [16]) #[false, false, false, false, false, false, false, false, false, false, false, false, false, false, false, false, false] (by kernel_rfl) rfl rfl ⟨hc1, ht2, hx1⟩ (fun hHeld => ?_)
                refine pure_ (i := 0) (N := some 56) (v := ?_) (a' := ?_) #[true, false, false, false, false, false, false, false, false, false, false, false, false, false, false, false, false] rfl rfl (by kernel_rfl) (fun _ _ _ h => h) (Or.inl ⟨by rfl, ?_⟩) ?_ ?_
                rotate_left
                · intro w'
                  go_simp
                  with_reducible rfl
                rotate_left
                · simp only [Act.put, List.setIfInBounds_toArray, List.set_cons_zero, List.set_cons_succ, i64_w, i32_w]
                  rfl
                refine pure_ (i := 1) (N := some 57) (v := ?_) (a' := ?_) #[true, true, false, false, false, false, false, false, false, false, false, false, false, false, false, false, false] rfl rfl (by kernel_rfl) (fun _ _ _ h => h) (Or.inl ⟨by rfl, ?_⟩) ?_ ?_
                rotate_left
                · intro w'
                  go_simp
                  with_reducible rfl
                rotate_left
                · simp only [Act.put, List.setIfInBounds_toArray, List.set_cons_zero, List.set_cons_succ, i64_w, i32_w]
                  rfl
                refine pure_ (i := 2) (N := some 58) (v := ?_) (a' := ?_) #[true, true, true, false, false, false, false, false, false, false, false, false, false, false, false, false, false] rfl rfl (by kernel_rfl) (fun _ _ _ h => h) (Or.inl ⟨by rfl, ?_⟩) ?_ ?_
                rotate_left
                · intro w'
                  go_simp
                  with_reducible rfl
                rotate_left
                · simp only [Act.put, List.setIfInBounds_toArray, List.set_cons_zero, List.set_cons_succ, i64_w, i32_w]
                  rfl
                refine take_ (i := 3) (N := some 59) (v := ?_) (a' := ?_) #[true, true, true, true, false, false, false, false, false, false, false, false, false, false, false, false, false] rfl rfl (by kernel_rfl) (fun _ _ _ h => h) (Or.inl ⟨by rfl, ?_⟩) hHeld ?_ ?_
                rotate_left
                · rintro w' ⟨s0, s1, s2⟩
                  go_simp
                  with_reducible rfl
                rotate_left
                · simp only [Act.put, List.setIfInBounds_toArray, List.set_cons_zero, List.set_cons_succ, i64_w, i32_w]
                  rfl
                refine pure_ (i := 4) (N := some 60) (v := ?_) (a' := ?_) #[true, true, true, true, true, false, false, false, false, false, false, false, false, false, false, false, false] rfl rfl (by kernel_rfl) (fun _ _ _ h => h) (Or.inl ⟨by rfl, ?_⟩) ?_ ?_
                rotate_left
                · intro w'
                  go_simp
                  with_reducible rfl
                rotate_left
                · simp only [Act.put, List.setIfInBounds_toArray, List.set_cons_zero, List.set_cons_succ, i64_w, i32_w]
                  rfl
                refine pure_ (i := 5) (N := some 61) (v := ?_) (a' := ?_) #[true, true, true, true, true, true, false, false, false, false, false, false, false, false, false, false, false] rfl rfl (by kernel_rfl) (fun _ _ _ h => h) (Or.inl ⟨by rfl, ?_⟩) ?_ ?_
                rotate_left
                · intro w'
                  go_simp
                  with_reducible rfl
                rotate_left
                · simp only [Act.put, List.setIfInBounds_toArray, List.set_cons_zero, List.set_cons_succ, i64_w, i32_w]
                  rfl
                refine pure_ (i := 6) (N := some 62) (v := ?_) (a' := ?_) #[true, true, true, true, true, true, true, false, false, false, false, false, false, false, false, false, false] rfl rfl (by kernel_rfl) (fun _ _ _ h => h) (Or.inl ⟨by rfl, ?_⟩) ?_ ?_
                rotate_left
                · intro w'
                  go_simp
                  with_reducible rfl
                rotate_left
                · simp only [Act.put, List.setIfInBounds_toArray, List.set_cons_zero, List.set_cons_succ, i64_w, i32_w]
                  rfl
                refine pure_ (i := 7) (N := some 63) (v := ?_) (a' := ?_) #[true, true, true, true, true, true, true, true, false, false, false, false, false, false, false, false, false] rfl rfl (by kernel_rfl) (fun _ _ _ h => h) (Or.inl ⟨by rfl, ?_⟩) ?_ ?_
                rotate_left
                · intro w'
                  go_simp
                  with_reducible rfl
                rotate_left
                · simp only [Act.put, List.setIfInBounds_toArray, List.set_cons_zero, List.set_cons_succ, i64_w, i32_w]
                  rfl
                refine take_ (i := 8) (N := some 64) (v := ?_) (a' := ?_) #[true, true, true, true, true, true, true, true, true, false, false, false, false, false, false, false, false] rfl rfl (by kernel_rfl) (fun _ _ _ h => h) (Or.inl ⟨by rfl, ?_⟩) hHeld ?_ ?_
                rotate_left
                · rintro w' ⟨s0, s1, s2⟩
                  go_simp
                  with_reducible rfl
                rotate_left
                · simp only [Act.put, List.setIfInBounds_toArray, List.set_cons_zero, List.set_cons_succ, i64_w, i32_w]
                  rfl
                refine pure_ (i := 9) (N := some 65) (v := ?_) (a' := ?_) #[true, true, true, true, true, true, true, true, true, true, false, false, false, false, false, false, false] rfl rfl (by kernel_rfl) (fun _ _ _ h => h) (Or.inl ⟨by rfl, ?_⟩) ?_ ?_
                rotate_left
                · intro w'
                  go_simp
                  with_reducible rfl
                rotate_left
                · simp only [Act.put, List.setIfInBounds_toArray, List.set_cons_zero, List.set_cons_succ, i64_w, i32_w]
                  rfl
                refine take_ (i := 10) (N := some 66) (v := ?_) (a' := ?_) #[true, true, true, true, true, true, true, true, true, true, true, false, false, false, false, false, false] rfl rfl (by kernel_rfl) (fun _ _ _ h => h) (Or.inl ⟨by rfl, ?_⟩) hHeld ?_ ?_
                rotate_left
                · rintro w' ⟨s0, s1, s2⟩
                  go_simp
                  with_reducible rfl
                rotate_left
                · simp only [Act.put, List.setIfInBounds_toArray, List.set_cons_zero, List.set_cons_succ, i64_w, i32_w]
                  rfl
                refine pure_ (i := 11) (N := some 67) (v := ?_) (a' := ?_) #[true, true, true, true, true, true, true, true, true, true, true, true, false, false, false, false, false] rfl rfl (by kernel_rfl) (fun _ _ _ h => h) (Or.inl ⟨by rfl, ?_⟩) ?_ ?_
                rotate_left
                · intro w'
                  go_simp
                  with_reducible rfl
                rotate_left
                · simp only [Act.put, List.setIfInBounds_toArray, List.set_cons_zero, List.set_cons_succ, i64_w, i32_w]
                  rfl
                refine pure_ (i := 12) (N := some 68) (v := ?_) (a' := ?_) #[true, true, true, true, true, true, true, true, true, true, true, true, true, false, false, false, false] rfl rfl (by kernel_rfl) (fun _ _ _ h => h) (Or.inl ⟨by rfl, ?_⟩) ?_ ?_
                rotate_left
                · intro w'
                  go_simp
                  with_reducible rfl
                rotate_left
                · simp only [Act.put, List.setIfInBounds_toArray, List.set_cons_zero, List.set_cons_succ, i64_w, i32_w]
                  rfl
                refine pure_ (i := 13) (N := some 69) (v := ?_) (a' := ?_) #[true, true, true, true, true, true, true, true, true, true, true, true, true, true, false, false, false] rfl rfl (by kernel_rfl) (fun _ _ _ h => h) (Or.inl ⟨by rfl, ?_⟩) ?_ ?_
                rotate_left
                · intro w'
                  go_simp
                  with_reducible rfl
                rotate_left
                · simp only [Act.put, List.setIfInBounds_toArray, List.set_cons_zero, List.set_cons_succ, i64_w, i32_w]
                  rfl
                refine pure_ (i := 14) (N := some 70) (v := ?_) (a' := ?_) #[true, true, true, true, true, true, true, true, true, true, true, true, true, true, true, false, false] rfl rfl (by kernel_rfl) (fun _ _ _ h => h) (Or.inl ⟨by rfl, ?_⟩) ?_ ?_
                rotate_left
                · intro w'
                  go_simp
                  with_reducible rfl
                rotate_left
                · simp only [Act.put, List.setIfInBounds_toArray, List.set_cons_zero, List.set_cons_succ, i64_w, i32_w]
                  rfl
                refine pure_ (i := 15) (N := some 71) (v := ?_) (a' := ?_) #[true, true, true, true, true, true, true, true, true, true, true, true, true, true, true, true, false] rfl rfl (by kernel_rfl) (fun _ _ _ h => h) (Or.inl ⟨by rfl, ?_⟩) ?_ ?_
                rotate_left
                · intro w'
                  go_simp
                  with_reducible rfl
                rotate_left
                · simp only [Act.put, List.setIfInBounds_toArray, List.set_cons_zero, List.set_cons_succ, i64_w, i32_w]
                  rfl
                refine last_ (i := 16) (N := none) #[true, true, true, true, true, true, true, true, true, true, true, true, true, true, true, true, true] rfl rfl (by kernel_rfl) (by decide) (fun K hK => ?_)
                refine skip_ (w1 := ?_) (by rfl) rfl ?_ ?_
                rotate_left
                · go_simp
                  rfl
                refine hK.out _ _ ?_
                clear hK K
                refine done_ (by kernel_rfl) ?_
                go_wp2
                go_roundg (l.length + 1)
                case measure =>
                  have := HGG.out
                  simp only [List.length_cons, if_neg c0] at this
                  omega
                case rel =>
                  have hfin := fun k x y z => impl_queueOf.fin (x := x) (y := y) (z := z) k hB hBw hBl HQB.out HTB.out HQ1.out HB.out hne1 hne3 hne5
                  have hgb : -1000000000000 ≤ gn1 ∧ gn1 ≤ 1000000000000 := by have := HG1.out; omega
                  exact impl_queueOf.rel_drop HCL.out (by omega) hm1 hp.2.2 hpr HG1.out HPL.out HLS1.out (by omega) (impl_queueOf.gUD hp.1 hgb hpr hp.2.2) (blk_far (hfin _ _ _ _).2.1 (p := ⟨g, 0, none⟩) hne4 _) (impl_queueOf.dropSt (hfin _ _ _ _).1 (hfin _ _ _ _).2.2.1 hcap) ((hfin _ _ _ _).2.2.2.setCell hB _)
            · have HG1 := Aside0.mk hG1
              clear hG1
              go_wp2
              go_quiet (fail)
              go_wp2
              go_quiet (fail)
              go_wp2
              refine start_ (n := 17) (S := fun w' => w'.cell? ⟨g, 1, none⟩ = some (.int .i64 gn1) ∧ w'.cell? ⟨w.heap.size, 2, none⟩ = some (.int .i64 pr) ∧ w'.cell? ⟨gl, o + 1, none⟩ = some (.int .i64 f1)) (ds := [16]) #[false, false, false, false, false, false, false, false, false, false, false, false, false, false, false, false, false] (by kernel_rfl) rfl rfl ⟨hc1, ht2, hx1⟩ (fun hHeld => ?_)
              refine pure_ (i := 0) (N := some 56) (v := ?_) (a' := ?_) #[true, false, false, false, false, false, false, false, false, false, false, false, false, false, false, false, false] rfl rfl (by kernel_rfl) (fun _ _ _ h => h) (Or.inl ⟨by rfl, ?_⟩) ?_ ?_
              rotate_left
              · intro w'
                go_simp
                with_reducible rfl
              rotate_left
              · simp only [Act.put, List.setIfInBounds_toArray, List.set_cons_zero, List.set_cons_succ, i64_w, i32_w]
                rfl
              refine pure_ (i := 1) (N := some 57) (v := ?_) (a' := ?_) #[true, true, false, false, false, false, false, false, false, false, false, false, false, false, false, false, false] rfl rfl (by kernel_rfl) (fun _ _ _ h => h) (Or.inl ⟨by rfl, ?_⟩) ?_ ?_
              rotate_left
              · intro w'
                go_simp
                with_reducible rfl
              rotate_left
              · simp only [Act.put, List.setIfInBounds_toArray, List.set_cons_zero, List.set_cons_succ, i64_w, i32_w]
                rfl
              refine pure_ (i := 2) (N := some 58) (v := ?_) (a' := ?_) #[true, true, true, false, false, false, false, false, false, false, false, false, false, false, false, false, false] rfl rfl (by kernel_rfl) (fun _ _ _ h => h) (Or.inl ⟨by rfl, ?_⟩) ?_ ?_
              rotate_left
              · intro w'
                go_simp
                with_reducible rfl
              rotate_left
              · simp only [Act.put, List.setIfInBounds_toArray, List.set_cons_zero, List.set_cons_succ, i64_w, i32_w]
                rfl
              refine take_ (i := 3) (N := some 59) (v := ?_) (a' := ?_) #[true, true, true, true, false, false, false, false, false, false, false, false, false, false, false, false, false] rfl rfl (by kernel_rfl) (fun _ _ _ h => h) (Or.inl ⟨by rfl, ?_⟩) hHeld ?_ ?_
              rotate_left
              · rintro w' ⟨s0, s1, s2⟩
                go_simp
                with_reducible rfl
              rotate_left
              · simp only [Act.put, List.setIfInBounds_toArray, List.set_cons_zero, List.set_cons_succ, i64_w, i32_w]
                rfl
              refine pure_ (i := 4) (N := some 60) (v := ?_) (a' := ?_) #[true, true, true, true, true, false, false, false, false, false, false, false, false, false, false, false, false] rfl rfl (by kernel_rfl) (fun _ _ _ h => h) (Or.inl ⟨by rfl, ?_⟩) ?_ ?_
              rotate_left
              · intro w'
                go_simp
                with_reducible rfl
              rotate_left
              · simp only [Act.put, List.setIfInBounds_toArray, List.set_cons_zero, List.set_cons_succ, i64_w, i32_w]
                rfl
              refine pure_ (i := 5) (N := some 61) (v := ?_) (a' := ?_) #[true, true, true, true, true, true, false, false, false, false, false, false, false, false, false, false, false] rfl rfl (by kernel_rfl) (fun _ _ _ h => h) (Or.inl ⟨by rfl, ?_⟩) ?_ ?_
              rotate_left
              · intro w'
                go_simp
                with_reducible rfl
              rotate_left
              · simp only [Act.put, List.setIfInBounds_toArray, List.set_cons_zero, List.set_cons_succ, i64_w, i32_w]
                rfl
              refine pure_ (i := 6) (N := some 62) (v := ?_) (a' := ?_) #[true, true, true, true, true, true, true, false, false, false, false, false, false, false, false, false, false] rfl rfl (by kernel_rfl) (fun _ _ _ h => h) (Or.inl ⟨by rfl, ?_⟩) ?_ ?_
              rotate_left
              · intro w'
                go_simp
                with_reducible rfl
              rotate_left
              · simp only [Act.put, List.setIfInBounds_toArray, List.set_cons_zero, List.set_cons_succ, i64_w, i32_w]
                rfl
              refine pure_ (i := 7) (N := some 63) (v := ?_) (a' := ?_) #[true, true, true, true, true, true, true, true, false, false, false, false, false, false, false, false, false] rfl rfl (by kernel_rfl) (fun _ _ _ h => h) (Or.inl ⟨by rfl, ?_⟩) ?_ ?_
              rotate_left
              · intro w'
                go_simp
                with_reducible rfl
              rotate_left
              · simp only [Act.put, List.setIfInBounds_toArray, List.set_cons_zero, List.set_cons_succ, i64_w, i32_w]
                rfl
              refine take_ (i := 8) (N := some 64) (v := ?_) (a' := ?_) #[true, true, true, true, true, true, true, true, true, false, false, false, false, false, false, false, false] rfl rfl (by kernel_rfl) (fun _ _ _ h => h) (Or.inl ⟨by rfl, ?_⟩) hHeld ?_ ?_
              rotate_left
              · rintro w' ⟨s0, s1, s2⟩
                go_simp
                with_reducible rfl
              rotate_left
              · simp only [Act.put, List.setIfInBounds_toArray, List.set_cons_zero, List.set_cons_succ, i64_w, i32_w]
                rfl
              refine pure_ (i := 9) (N := some 65) (v := ?_) (a' := ?_) #[true, true, true, true, true, true, true, true, true, true, false, false, false, false, false, false, false] rfl rfl (by kernel_rfl) (fun _ _ _ h => h) (Or.inl ⟨by rfl, ?_⟩) ?_ ?_
              rotate_left
              · intro w'
                go_simp
                with_reducible rfl
              rotate_left
              · simp only [Act.put, List.setIfInBounds_toArray, List.set_cons_zero, List.set_cons_succ, i64_w, i32_w]
                rfl
              refine take_ (i := 10) (N := some 66) (v := ?_) (a' := ?_) #[true, true, true, true, true, true, true, true, true, true, true, false, false, false, false, false, false] rfl rfl (by kernel_rfl) (fun _ _ _ h => h) (Or.inl ⟨by rfl, ?_⟩) hHeld ?_ ?_
              rotate_left
              · rintro w' ⟨s0, s1, s2⟩
                go_simp
                with_reducible rfl
              rotate_left
              · simp only [Act.put, List.setIfInBounds_toArray, List.set_cons_zero, List.set_cons_succ, i64_w, i32_w]
                rfl
              refine pure_ (i := 11) (N := some 67) (v := ?_) (a' := ?_) #[true, true, true, true, true, true, true, true, true, true, true, true, false, false, false, false, false] rfl rfl (by kernel_rfl) (fun _ _ _ h => h) (Or.inl ⟨by rfl, ?_⟩) ?_ ?_
              rotate_left
              · intro w'
                go_simp
                with_reducible rfl
              rotate_left
              · simp only [Act.put, List.setIfInBounds_toArray, List.set_cons_zero, List.set_cons_succ, i64_w, i32_w]
                rfl
              refine pure_ (i := 12) (N := some 68) (v := ?_) (a' := ?_) #[true, true, true, true, true, true, true, true, true, true, true, true, true, false, false, false, false] rfl rfl (by kernel_rfl) (fun _ _ _ h => h) (Or.inl ⟨by rfl, ?_⟩) ?_ ?_
              rotate_left
              · intro w'
                go_simp
                with_reducible rfl
              rotate_left
              · simp only [Act.put, List.setIfInBounds_toArray, List.set_cons_zero, List.set_cons_succ, i64_w, i32_w]
                rfl
              refine pure_ (i := 13) (N := some 69) (v := ?_) (a' := ?_) #[true, true, true, true, true, true, true, true, true, true, true, true, true, true, false, false, false] rfl rfl (by kernel_rfl) (fun _ _ _ h => h) (Or.inl ⟨by rfl, ?_⟩) ?_ ?_
              rotate_left
              · intro w'
                go_simp
                with_reducible rfl
              rotate_left
              · simp only [Act.put, List.setIfInBounds_toArray, List.set_cons_zero, List.set_cons_succ, i64_w, i32_w]
                rfl
              refine pure_ (i := 14) (N := some 70) (v := ?_) (a' := ?_) #[true, true, true, true, true, true, true, true, true, true, true, true, true, true, true, false, false] rfl rfl (by kernel_rfl) (fun _ _ _ h => h) (Or.inl ⟨by rfl, ?_⟩) ?_ ?_
              rotate_left
              · intro w'
                go_simp
                with_reducible rfl
              rotate_left
              · simp only [Act.put, List.setIfInBounds_toArray, List.set_cons_zero, List.set_cons_succ, i64_w, i32_w]
                rfl
              refine pure_ (i := 15) (N := some 71) (v := ?_) (a' := ?_) #[true, true, true, true, true, true, true, true, true, true, true, true, true, true, true, true, false] rfl rfl (by kernel_rfl) (fun _ _ _ h => h) (Or.inl ⟨by rfl, ?_⟩) ?_ ?_
              rotate_left
              · intro w'
                go_simp
                with_reducible rfl
              rotate_left
              · simp only [Act.put, List.setIfInBounds_toArray, List.set_cons_zero, List.set_cons_succ, i64_w, i32_w]
                rfl
              refine last_ (i := 16) (N := none) #[true, true, true, true, true, true, true, true, true, true, true, true, true, true, true, true, true] rfl rfl (by kernel_rfl) (by decide) (fun K hK => ?_)
              refine skip_ (w1 := ?_) (by rfl) rfl ?_ ?_
              rotate_left
              · go_simp
                rfl
              refine hK.out _ _ ?_
              clear hK K
              refine done_ (by kernel_rfl) ?_
              go_wp2
              go_roundg (l.length + 1)
              case measure =>
                have := HGG.out
                simp only [List.length_cons, if_neg c0] at this
                omega
              case rel =>
                have hfin := fun k x y z => impl_queueOf.fin (x := x) (y := y) (z := z) k hB hBw hBl HQB.out HTB.out HQ1.out HB.out hne1 hne3 hne5
                have hgb : -1000000000000 ≤ gn1 ∧ gn1 ≤ 1000000000000 := by have := HG1.out; omega
                exact impl_queueOf.rel_part HCL.out (by omega) hm1 hp.2.2 hp.1 hpr HG1.out HPL.out HLS1.out (by omega) (by omega) (impl_queueOf.gUP hm1 hgb hpr hp.2.2) (hfin _ _ _ _).2.1 ⟨_, (hfin _ _ _ _).1, (hfin _ _ _ _).2.2.1⟩ (hfin _ _ _ _).2.2.2
          · have hs2 : decide (0 < m1) = false := decide_eq_false s2
            go_wp2
            go_quiet (fail)
            go_wp2
            have HNE := Aside0.mk (Kd.Q_ne HQ1.out HQB.out (show (31 : Nat) ≠ 46 from by decide))
            have HBR := Aside0.mk (Nat.le_trans hBw HB.out.size : B ≤ wr.heap.size)
            have HL := Aside0.mk (show (((⟨f0, f1⟩ :: l : List S31)).length + 1) * 16 ≤ 140737488355328 by have := HPL.out; omega)
            have HQ2 := Aside0.mk (Kd.Q_drew (Kd.Q_drewN HQ1.out nq))
            have HQB2 : Aside0 (((wr.drewN nq).drew).heap[g]? = some (.cells #[.slice (some ⟨gl, o, none⟩) n cap, .int .i64 gn1] 46 (0, 0))) := ⟨HQB.out⟩
            have HB2 := Aside0.mk (below_drew (pw_below_drewN HB.out nq))
            replace HBR : Aside0 (B ≤ ((wr.drewN nq).drew).heap.size) := ⟨HBR.out⟩
            refine start_ (n := 15) (S := fun w' => w'.cell? ⟨g, 0, none⟩ = some (.slice (some ⟨gl, o, none⟩) n cap) ∧ w'.cell? ⟨w.heap.size, 1, none⟩ = some (.int .i64 m1) ∧ w'.cell? ⟨w.heap.size, 2, none⟩ = some (.int .i64 pr)) (ds := [11, 14]) #[false, false, false, false, false, false, false, false, false, false, false, false, false, false, false] (by kernel_rfl) rfl rfl ⟨hc0, ht1, ht2⟩ (fun hHeld => ?_)
            generalize (wr.drewN nq).drew = W at HQ2 HQB2 HB2 HBR hHeld ⊢
            refine pure_ (i := 0) (N := some 130) (v := ?_) (a' := ?_) #[true, false, false, false, false, false, false, false, false, false, false, false, false, false, false] rfl rfl (by kernel_rfl) (fun _ _ _ h => h) (Or.inl ⟨by rfl, ?_⟩) ?_ ?_
            rotate_left
            · intro w'
              go_simp
              with_reducible rfl
            rotate_left
            · simp only [Act.put, List.setIfInBounds_toArray, List.set_cons_zero, List.set_cons_succ, i64_w, i32_w]
              rfl
            refine pure_ (i := 1) (N := some 131) (v := ?_) (a' := ?_) #[true, true, false, false, false, false, false, false, false, false, false, false, false, false, false] rfl rfl (by kernel_rfl) (fun _ _ _ h => h) (Or.inl ⟨by rfl, ?_⟩) ?_ ?_
            rotate_left
            · intro w'
              go_simp
              with_reducible rfl
            rotate_left
            · simp only [Act.put, List.setIfInBounds_toArray, List.set_cons_zero, List.set_cons_succ, i64_w, i32_w]
              rfl
            refine pure_ (i := 2) (N := some 132) (v := ?_) (a' := ?_) #[true, true, true, false, false, false, false, false, false, false, false, false, false, false, false] rfl rfl (by kernel_rfl) (fun _ _ _ h => h) (Or.inl ⟨by rfl, ?_⟩) ?_ ?_
            rotate_left
            · intro w'
              go_simp
              with_reducible rfl
            rotate_left
            · simp only [Act.put, List.setIfInBounds_toArray, List.set_cons_zero, List.set_cons_succ, i64_w, i32_w]
              rfl
            refine pure_ (i := 3) (N := some 133) (v := ?_) (a' := ?_) #[true, true, true, true, false, false, false, false, false, false, false, false, false, false, false] rfl rfl (by kernel_rfl) (fun _ _ _ h => h) (Or.inl ⟨by rfl, ?_⟩) ?_ ?_
            rotate_left
            · intro w'
              go_simp
              with_reducible rfl
            rotate_left
            · simp only [Act.put, List.setIfInBounds_toArray, List.set_cons_zero, List.set_cons_succ, i64_w, i32_w]
              rfl
            refine take_ (i := 4) (N := some 134) (v := ?_) (a' := ?_) #[true, true, true, true, true, false, false, false, false, false, false, false, false, false, false] rfl rfl (by kernel_rfl) (fun _ _ _ h => h) (Or.inl ⟨by rfl, ?_⟩) hHeld ?_ ?_
            rotate_left
            · rintro w' ⟨s0, s1, s2⟩
              go_simp
              with_reducible rfl
            rotate_left
            · simp only [Act.put, List.setIfInBounds_toArray, List.set_cons_zero, List.set_cons_succ, i64_w, i32_w]
              rfl
            refine pure_ (i := 5) (N := some 135) (v := ?_) (a' := ?_) #[true, true, true, true, true, true, false, false, false, false, false, false, false, false, false] rfl rfl (by kernel_rfl) (fun _ _ _ h => h) (Or.inl ⟨by rfl, ?_⟩) ?_ ?_
            rotate_left
            · intro w'
              go_simp
              with_reducible rfl
            rotate_left
            · simp only [Act.put, List.setIfInBounds_toArray, List.set_cons_zero, List.set_cons_succ, i64_w, i32_w]
              rfl
            refine take_ (i := 6) (N := some 136) (v := ?_) (a' := ?_) #[true, true, true, true, true, true, true, false, false, false, false, false, false, false, false] rfl rfl (by kernel_rfl) (fun _ _ _ h => h) (Or.inl ⟨by rfl, ?_⟩) hHeld ?_ ?_
            rotate_left
            · rintro w' ⟨s0, s1, s2⟩
              go_simp
              with_reducible rfl
            rotate_left
            · simp only [Act.put, List.setIfInBounds_toArray, List.set_cons_zero, List.set_cons_succ, i64_w, i32_w]
              rfl
            refine pure_ (i := 7) (N := some 137) (v := ?_) (a' := ?_) #[true, true, true, true, true, true, true, true, false, false, false, false, false, false, false] rfl rfl (by kernel_rfl) (fun _ _ _ h => h) (Or.inl ⟨by rfl, ?_⟩) ?_ ?_
            rotate_left
            · intro w'
              go_simp
              with_reducible rfl
            rotate_left
            · simp only [Act.put, List.setIfInBounds_toArray, List.set_cons_zero, List.set_cons_succ, i64_w, i32_w]
              rfl
            refine take_ (i := 8) (N := some 138) (v := ?_) (a' := ?_) #[true, true, true, true, true, true, true, true, true, false, false, false, false, false, false] rfl rfl (by kernel_rfl) (fun _ _ _ h => h) (Or.inl ⟨by rfl, ?_⟩) hHeld ?_ ?_
            rotate_left
            · rintro w' ⟨s0, s1, s2⟩
              go_simp
              with_reducible rfl
            rotate_left
            · simp only [Act.put, List.setIfInBounds_toArray, List.set_cons_zero, List.set_cons_succ, i64_w, i32_w]
              rfl
            refine pure_ (i := 9) (N := some 139) (v := ?_) (a' := ?_) #[true, true, true, true, true, true, true, true, true, true, false, false, false, false, false] rfl rfl (by kernel_rfl) (fun _ _ _ h => h) (Or.inl ⟨by rfl, ?_⟩) ?_ ?_
            rotate_left
            · intro w'
              go_simp
              with_reducible rfl
            rotate_left
            · simp only [Act.put, List.setIfInBounds_toArray, List.set_cons_zero, List.set_cons_succ, i64_w, i32_w]
              rfl
            refine one_ (i := 10) (N := some 140) #[true, true, true, true, true, true, true, true, true, true, true, false, false, false, false] rfl rfl (by kernel_rfl) (by decide) (fun K hK => ?_)
            refine value_ (w1 := ?_) (v := ?_) (by rfl) rfl ?_ ?_
            rotate_left 2
            · go_simp
              constructor
              · rfl
              · rfl
            refine hK.out _ _ ⟨pw_cell_below (below_alloc (Below.refl _ _) _) hHeld.1, pw_cell_below (below_alloc (Below.refl _ _) _) hHeld.2.1, pw_cell_below (below_alloc (Below.refl _ _) _) hHeld.2.2⟩ (fun hHeld => ?_)
            clear hK K
            refine norm_ (a' := ?_) ?_ ?_
            rotate_left
            · show Act.put _ (some 140) _ = _
              simp only [Act.put, List.setIfInBounds_toArray, List.set_cons_zero, List.set_cons_succ, i64_w, i32_w]
              rfl
            refine last_ (i := 11) (N := some 141) #[true, true, true, true, true, true, true, true, true, true, true, true, false, false, false] rfl rfl (by kernel_rfl) (by decide) (fun K hK => ?_)
            refine Kd.Q_append_step k31 (w0 := w) B (by rfl) (.tmp 134) (.tmp 140) 28 31 (.agg #[.int .i64 0, .int .i64 0]) 16 (by rfl) Try.underlying28 impl_queueOf.infoL rfl (by decide) (by omega) (.slice (some ⟨gl, o, none⟩) n cap) (⟨f0, f1⟩ :: l : List S31) (⟨m1, pr⟩ : S31) [.int .i64 m1, .int .i64 pr] (fun _ => True) (fun _ => False) (by rfl) (by rfl) (k31_mkM _ _ _ (⟨m1, pr⟩ : S31)) (fun _ hk => hk.elim) (fun _ _ => trivial) HQ2.out HB2.out HBR.out HL.out ?_
            intro v1 w1 ho hb hgr hat
            obtain ⟨A1, c1, rfl, _⟩ := Kd.Q_slice ho
            generalize hn1 : ((⟨f0, f1⟩ :: l : List S31) ++ [(⟨m1, pr⟩ : S31)]).length = n1 at ho ⊢
            clear hn1
            have hb1 : w1.heap[g]? = some (.cells #[.slice (some ⟨gl, o, none⟩) n cap, .int .i64 gn1] 46 (0, 0)) := blk_grown HQB2.out hgr HNE.out
            have hx3 : w1.frozen? ⟨g, 0, none⟩ = false := blk_frozen hb1 0
            have hx4 : w1.cell? ⟨g, 0, none⟩ = some (.slice (some ⟨gl, o, none⟩) n cap) := (blk_cell hb1 0).trans rfl
            have HO1 := Aside0.mk ho
            have HBB := Aside0.mk hb
            have HB1 := Aside0.mk hb1
            clear ho hb hgr hat hb1
            refine hK.out _ _ ?_
            clear hK K
            refine norm_ (a' := ?_) ?_ ?_
            rotate_left
            · show Act.put _ (some 141) _ = _
              simp only [Act.put, List.setIfInBounds_toArray, List.set_cons_zero, List.set_cons_succ, i64_w, i32_w]
              rfl
            refine pure_ (i := 12) (N := some 142) (v := ?_) (a' := ?_) #[true, true, true, true, true, true, true, true, true, true, true, true, true, false, false] rfl rfl (by kernel_rfl) (fun _ _ _ h => h) (Or.inl ⟨by rfl, ?_⟩) ?_ ?_
            rotate_left
            · intro w'
              go_simp
              with_reducible rfl
            rotate_left
            · simp only [Act.put, List.setIfInBounds_toArray, List.set_cons_zero, List.set_cons_succ, i64_w, i32_w]
              rfl
            refine pure_ (i := 13) (N := some 143) (v := ?_) (a' := ?_) #[true, true, true, true, true, true, true, true, true, true, true, true, true, true, false] rfl rfl (by kernel_rfl) (fun _ _ _ h => h) (Or.inl ⟨by rfl, ?_⟩) ?_ ?_
            rotate_left
            · intro w'
              go_simp
              with_reducible rfl
            rotate_left
            · simp only [Act.put, List.setIfInBounds_toArray, List.set_cons_zero, List.set_cons_succ, i64_w, i32_w]
              rfl
            refine last_ (i := 14) (N := none) #[true, true, true, true, true, true, true, true, true, true, true, true, true, true, true] rfl rfl (by kernel_rfl) (by decide) (fun K hK => ?_)
            refine skip_ (w1 := ?_) (by rfl) rfl ?_ ?_
            rotate_left
            · go_simp
              rfl
            refine hK.out _ _ ?_
            clear hK K
            refine done_ (by kernel_rfl) ?_
            go_end0
            have e : fin = (⟨f0, f1⟩ :: l, m1, gn1) := by
              rw [← HCL.out]
              unfold impl_queueOf.close
              rw [if_pos (.inr (by simp only; omega))]
            have e2 : q1 = ((⟨f0, f1⟩ :: l) ++ [⟨m1, pr⟩], gn1) := by rw [HTAKE.out, e]; simp only [if_neg c0]
            rw [e2]
            exact ⟨rfl, impl_queueOf.St.put HB1.out HO1.out, HBB.out.setCell hB _⟩
def impl_queueOf.v (l : List S41) : List S31 × Int := if impl_ValidTrades.v l = true then impl_queueOf.queue l else ([], 0)
def impl_queueOf.QPost (w : World) (q : List S31 × Int) (e : Ending) (w' : World) : Prop := e = .returned (.pointer (some ⟨w.heap.size, 0, none⟩)) ∧ impl_queueOf.St w' w.heap.size w.heap.size q ∧ Below w.heap.size w w'
/-- The head of each round over the trades. -/
def impl_queueOf.Rel2 (l : List S41) (w : World) (gg : Nat) (i : Value) (wr : World) : Prop :=
  ∃ n : Nat, n ≤ l.length ∧ i = .int .i64 n ∧ l.length - n ≤ gg ∧ impl_queueOf.St wr w.heap.size w.heap.size ((l.take n).foldl impl_queueOf.take ([], 0)) ∧ Below w.heap.size w wr
theorem impl_queueOf.trade_of {l : List S41} (h : impl_ValidTrades.v l = true) : l.length ≤ 16 ∧ ∀ t ∈ l, (-9999 ≤ t.f1 ∧ t.f1 ≤ 9999) ∧ 1 ≤ t.f2 ∧ t.f2 ≤ 50000 := by
  unfold impl_ValidTrades.v at h
  simp only [Bool.and_eq_true, decide_eq_true_eq, List.all_eq_true] at h
  refine ⟨h.1, fun t ht => ?_⟩
  obtain ⟨i, hi, rfl⟩ := List.getElem_of_mem ht
  have h1 := h.2 i (List.mem_range.2 hi)
  unfold impl_ValidTrades.ok at h1
  rw [Bool.and_eq_true] at h1
  have h2 := of_decide_eq_true h1.1
  have e : rd_T41 l (i : Int) = l[i] := by
    unfold rd_T41
    rw [List.getD_eq_getElem?_getD, Int.toNat_natCast, List.getElem?_eq_getElem hi]
    rfl
  rw [e] at h2
  exact ⟨h2.2.1, h2.2.2.2⟩
theorem impl_queueOf.St.below {w w1 : World} {B g : Nat} {q : List S31 × Int} (h : impl_queueOf.St w B g q) (hb : Below w.heap.size w w1) : impl_queueOf.St w1 B g q := by
  obtain ⟨v, h1, h2⟩ := h
  exact ⟨v, (hb.block _ (blk_lt h1)).trans h1, Kd.Q_below h2 hb⟩
set_option maxHeartbeats 4000000 in
set_option maxRecDepth 100000 in
theorem impl_queueOf.calls0 (A0 : Option Addr) (c0 : Nat) (l0 : List (S41)) (w : World) (hr0 : Kd.C k41 w A0 l0.length l0) (hc0 : l0.length ≤ c0) :
    Calls Try.prog 17 #[.slice A0 l0.length c0] w (impl_queueOf.QPost w (impl_queueOf.v l0)) := by
  have HR0 := Aside0.mk hr0
  have HC0 := Aside0.mk hc0
  clear hr0 hc0
  have hst0 : ∀ w1, Below (w.alloc (.cells #[.slice none 0 0, .int .i64 0] 46)).heap.size (w.alloc (.cells #[.slice none 0 0, .int .i64 0] 46)) w1 → impl_queueOf.St w1 w.heap.size w.heap.size ([], 0) := fun w1 hb =>
    impl_queueOf.St.below ⟨_, heap_alloc_new w _, Kd.Q_nil _ _ _ _ _⟩ hb
  have hbb : ∀ w1, Below (w.alloc (.cells #[.slice none 0 0, .int .i64 0] 46)).heap.size (w.alloc (.cells #[.slice none 0 0, .int .i64 0] 46)) w1 → Below w.heap.size w w1 := fun w1 hb =>
    ((Below.refl _ _).alloc (Nat.le_refl _) _).trans (hb.mono (by simp))
  have HST := Aside0.mk hst0
  have HBB := Aside0.mk hbb
  clear hst0 hbb
  by_cases hv : impl_ValidTrades.v l0 = true
  · have HTR := Aside0.mk (impl_queueOf.trade_of hv)
    have hln : l0.length ≤ 16 := HTR.out.1
    have hq : impl_queueOf.v l0 = impl_queueOf.queue l0 := if_pos hv
    rw [hq]
    clear hq
    have HV := Aside0.mk (show impl_ValidTrades.f l0 = some true by unfold impl_ValidTrades.f; rw [hv])
    clear hv
    go_enter Try.func17, Try.ntmps17
    go_wp2_with (go_at_call 14; refine (impl_ValidTrades.calls A0 c0 l0 true _ (Kd.C_alloc HR0.out _) HC0.out HV.out).mono ?_; rintro e w1 ⟨rfl, hb1⟩; have HB1 := Aside0.mk hb1; clear hb1)
    go_loopg [12] l0.length (fun gg v12 wr => impl_queueOf.Rel2 l0 w gg v12 wr)
    case atStart => exact ⟨0, Nat.zero_le _, rfl, by omega, HST.out _ HB1.out, HBB.out _ HB1.out⟩
    case round =>
      obtain ⟨n, hn, rfl, hgg, hst, hbr⟩ := hrel
      by_cases hlt : n < l0.length
      · have hltz : (n : Int) < (l0.length : Int) := by omega
        obtain ⟨ad, rfl, hx0, hx1, hx2⟩ := at_T41 HR0.out (n : Int) (by omega) (by omega)
        rw [Int.toNat_natCast] at hx0 hx1 hx2
        replace hx0 := (hbr.cell (World.block_lt_of_cell? w _ hx0)).trans hx0
        replace hx1 := (hbr.cell (World.block_lt_of_cell? w _ hx1)).trans hx1
        replace hx2 := (hbr.cell (World.block_lt_of_cell? w _ hx2)).trans hx2
        have hmem : rd_T41 l0 (n : Int) = l0[n] := by
          unfold rd_T41
          rw [List.getD_eq_getElem?_getD, Int.toNat_natCast, List.getElem?_eq_getElem hlt]
          rfl
        rw [hmem] at hx0 hx1 hx2
        have htk : l0.take (n + 1) = l0.take n ++ [l0[n]] := by rw [List.take_succ_eq_append_getElem hlt]
        have hb := HTR.out.2 _ (List.getElem_mem hlt)
        have hok := impl_queueOf.queue_ok (l0.take n) (fun t ht => HTR.out.2 t (List.mem_of_mem_take ht)) ([], 0) (fun p hp => by cases hp)
        have hlk : (l0.take n).length = n := by rw [List.length_take]; omega
        rw [hlk] at hok
        simp only [List.length_nil] at hok
        clear hmem hlk
        generalize l0[n] = t at hx0 hx1 hx2 htk hb
        obtain ⟨d, m, pr⟩ := t
        simp only at hx0 hx1 hx2 hb
        have HTK := Aside0.mk htk
        have HBR := Aside0.mk hbr
        have HS := Aside0.mk hst
        have HG := Aside0.mk hgg
        clear htk hbr hst hgg
        generalize hfd : (l0.take n).foldl impl_queueOf.take ([], 0) = q at hok HS
        have HFD := Aside0.mk hfd
        clear hfd
        obtain ⟨ls, gn⟩ := q
        simp only at hok
        have HOK := Aside0.mk hok.1
        have hok2 : ls.length ≤ 100 ∧ -100000000000 ≤ gn ∧ gn ≤ 100000000000 := by omega
        clear hok
        go_wp2_with (go_at_call 25; refine (impl_queueOf.take_calls w.heap.size ls gn d m pr w.heap.size _ (Nat.le_refl _) (impl_queueOf.St.alloc HS.out _) HOK.out hok2.1 hok2.2 hb.1 hb.2).mono ?_; rintro e w2 ⟨rfl, hst2, hb2⟩; have HS2 := Aside0.mk hst2; have HB2 := Aside0.mk hb2; clear hst2 hb2)
        go_roundg (l0.length - (n + 1))
        case measure => have := HG.out; omega
        case rel =>
          refine ⟨n + 1, by omega, by go_num, Nat.le_refl _, ?_, ?_⟩
          · rw [HTK.out, List.foldl_append, HFD.out]
            exact HS2.out
          · exact (HBR.out.alloc HBR.out.size _).trans (HB2.out.mono (Nat.le_refl _))
      · have hltz : ¬ (n : Int) < (l0.length : Int) := by omega
        obtain rfl : n = l0.length := by omega
        rw [List.take_length] at hst
        have HS := Aside0.mk hst
        have HBR := Aside0.mk hbr
        clear hst hbr hgg
        go_wp2
        go_ret
        exact ⟨rfl, HS.out, HBR.out⟩
  · have hv' : impl_ValidTrades.v l0 = false := by simpa using hv
    have hq : impl_queueOf.v l0 = ([], 0) := if_neg hv
    rw [hq]
    clear hq
    have HV := Aside0.mk (show impl_ValidTrades.f l0 = some false by unfold impl_ValidTrades.f; rw [hv'])
    clear hv hv'
    go_enter Try.func17, Try.ntmps17
    go_wp2_with (go_at_call 14; refine (impl_ValidTrades.calls A0 c0 l0 false _ (Kd.C_alloc HR0.out _) HC0.out HV.out).mono ?_; rintro e w1 ⟨rfl, hb1⟩; have HB1 := Aside0.mk hb1; clear hb1)
    go_ret
    exact ⟨rfl, HST.out _ HB1.out, HBB.out _ HB1.out⟩
theorem impl_queueOf.len16 (l : List S41) : (impl_queueOf.v l).1.length ≤ 16 := by
  unfold impl_queueOf.v
  by_cases h : impl_ValidTrades.v l = true
  · rw [if_pos h]
    have ht := impl_queueOf.trade_of h
    have := (impl_queueOf.queue_ok l ht.2 ([], 0) (fun p hp => by cases hp)).2.1
    unfold impl_queueOf.queue
    simp only [List.length_nil] at this
    omega
  · rw [if_neg h]
    simp


end Go.Proofs.Ytdlldaclidgniaa.PFnPostTrades
