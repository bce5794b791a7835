/- The functions that FnExactLotsOf reaches, each with a proof that the call does what it says; a part of that statement's proof. Conditions: none. -/
import Derived.Test.YtnapimpnelkhcaaGFnExactLotsOfx0
import Derived.Test.YtnapimpnelkhcaaGFnExactLotsOfx2
import Derived.Test.YtnapimpnelkhcaaGFnExactLotsOfx4
namespace Go.Proofs.Ytnapimpnelkhcaa.PFnExactLotsOf
open Go.RowKit Go.Proofs.YtnapimpnelkhcaaW.PrintWords Go.Proofs.YtnapimpnelkhcaaW.PrintLast Go.Proofs.YtnapimpnelkhcaaW.PrintMore
attribute [local go_sem] max2_int min2_int max_two min_two max_three min_three max_four min_four   -- for this text's walks alone
set_option linter.unusedVariables false
set_option linter.unusedSimpArgs false

/-! ### spec_distance: function 44 -/
def spec_distance.f (a0 : Int) : Option (Int) := if a0 < 0 then (some (wrap64 (-a0))) else (some a0)
set_option maxHeartbeats 8000000 in
set_option maxRecDepth 100000 in
theorem spec_distance.calls (a0 : Int) (r : Int) (w : World) (h : spec_distance.f a0 = some r) :
    Calls Try.prog 44 #[.int .i64 a0] w fun e w' => e = .returned (.int .i64 r) ∧ Drawn0 w w' := by
  have H : (if a0 < 0 then (some (wrap64 (-a0))) else (some a0)) = some r := h
  clear h
  by_cases c2 : a0 < 0
  · rw [if_pos c2] at H
    have c2b0 : decide (a0 < 0) = true := decide_eq_true c2
    clear c2
    obtain rfl := Option.some.inj H
    go_enter Try.func44, Try.ntmps44
    go_wp2
    go_ret
    exact ⟨by first | rfl | (simp; done) | (simp [*]; done), by repeat (first | exact Drawn0.refl _ | apply Drawn0.step)⟩
  · rw [if_neg c2] at H
    have c2b0 : decide (a0 < 0) = false := decide_eq_false c2
    clear c2
    obtain rfl := Option.some.inj H
    go_enter Try.func44, Try.ntmps44
    go_wp2
    go_ret
    exact ⟨by first | rfl | (simp; done) | (simp [*]; done), by repeat (first | exact Drawn0.refl _ | apply Drawn0.step)⟩

/-! ### spec_settle: function 37 -/
def spec_settle.ok (t : S33) : Bool := decide ((-9999 ≤ t.f1 ∧ t.f1 ≤ 9999) ∧ 1 ≤ t.f2 ∧ t.f2 ≤ 50000)
def spec_settle.good (l : List S33) : Bool := decide (l.length ≤ 16) && l.all spec_settle.ok
def spec_settle.f (l0 : List S33) : Option (List S31 × Int) := if spec_settle.good l0 = true then some (impl_queueOf.queue l0) else none
/-- The head of each round over lots. -/
def spec_settle.Rel (w : World) (pr G : Int) (fin : List S31 × Int × Int) (gg : Nat) (v4 v5 v7 : Value) (wr : World) : Prop :=
  ∃ (ls : List S31) (m gn : Int), v5 = .int .i64 gn ∧ v7 = .int .i64 m ∧ impl_queueOf.close pr ls m gn = fin ∧ ls.length + (if m = 0 then 0 else 1) ≤ gg ∧ (-9999 ≤ m ∧ m ≤ 9999) ∧ (gn + 49999 * (m.natAbs : Int) ≤ G ∧ -G ≤ gn - 49999 * (m.natAbs : Int)) ∧ ls.length ≤ 100 ∧ (∀ p ∈ ls, impl_queueOf.okL p = true) ∧
    Kd.Q k31 31 wr w.heap.size (fun _ => True) v4 ls ∧ Below w.heap.size w wr
/-- The head of each round over trades. -/
def spec_settle.Out (l : List S33) (w : World) (gg : Nat) (v4 v5 v6 : Value) (wr : World) : Prop :=
  ∃ (n : Nat) (ls : List S31) (gn : Int), n ≤ l.length ∧ v6 = .int .i64 n ∧ v5 = .int .i64 gn ∧ l.length - n ≤ gg ∧ (l.take n).foldl impl_queueOf.take ([], 0) = (ls, gn) ∧ Kd.Q k31 31 wr w.heap.size (fun _ => True) v4 ls ∧ Below w.heap.size w wr
theorem spec_settle.rel_drop {w W : World} {v4 : Value} {pr G f0 f1 m1 gn1 m2 x : Int} {l : List S31} {fin : List S31 × Int × Int} (hcl : impl_queueOf.close pr (⟨f0, f1⟩ :: l) m1 gn1 = fin) (ho : (0 < f0 ∧ m1 < 0 ∧ m1 + f0 ≤ 0) ∨ (f0 < 0 ∧ 0 < m1 ∧ 0 ≤ m1 + f0))
    (hm1 : -9999 ≤ m1 ∧ m1 ≤ 9999) (hf : 1 ≤ f1 ∧ f1 ≤ 50000) (hpr : 1 ≤ pr ∧ pr ≤ 50000) (hG : gn1 + 49999 * (m1.natAbs : Int) ≤ G ∧ -G ≤ gn1 - 49999 * (m1.natAbs : Int)) (hln : (⟨f0, f1⟩ :: l : List S31).length ≤ 100) (hls : ∀ p ∈ (⟨f0, f1⟩ :: l : List S31), impl_queueOf.okL p = true)
    (hm2 : m2 = m1 + f0) (hx : x = gn1 + f0 * (pr - f1)) (hst : Kd.Q k31 31 W w.heap.size (fun _ => True) v4 l) (hb : Below w.heap.size w W) :
    spec_settle.Rel w pr G fin (l.length + 1) v4 (.int .i64 x) (.int .i64 m2) W := by
  subst hm2
  subst hx
  have hb1 := impl_queueOf.prod_bd (a := f0) (d := pr - f1) (by omega)
  refine ⟨l, m1 + f0, gn1 + f0 * (pr - f1), rfl, rfl, ?_, by split <;> omega, by omega, ⟨by omega, by omega⟩, by simp only [List.length_cons] at hln; omega, fun q hq => hls q (List.mem_cons_of_mem _ hq), hst, hb⟩
  rw [← hcl]
  conv => rhs; unfold impl_queueOf.close
  rw [if_neg (by simp only; omega), if_pos (by simp only; omega)]
theorem spec_settle.rel_part {w W : World} {v4 : Value} {pr G f0 f1 m1 gn1 f2 m2 x : Int} {l : List S31} {fin : List S31 × Int × Int} (hcl : impl_queueOf.close pr (⟨f0, f1⟩ :: l) m1 gn1 = fin) (ho : (0 < f0 ∧ m1 < 0 ∧ 0 < m1 + f0) ∨ (f0 < 0 ∧ 0 < m1 ∧ m1 + f0 < 0))
    (hm1 : -9999 ≤ m1 ∧ m1 ≤ 9999) (hf : 1 ≤ f1 ∧ f1 ≤ 50000) (hf0 : -9999 ≤ f0 ∧ f0 ≤ 9999) (hpr : 1 ≤ pr ∧ pr ≤ 50000) (hG : gn1 + 49999 * (m1.natAbs : Int) ≤ G ∧ -G ≤ gn1 - 49999 * (m1.natAbs : Int)) (hln : (⟨f0, f1⟩ :: l : List S31).length ≤ 100) (hls : ∀ p ∈ (⟨f0, f1⟩ :: l : List S31), impl_queueOf.okL p = true)
    (hm2 : m2 = 0) (hf2 : f2 = f0 + m1) (hx : x = gn1 - m1 * (pr - f1)) (hst : Kd.Q k31 31 W w.heap.size (fun _ => True) v4 (⟨f2, f1⟩ :: l)) (hb : Below w.heap.size w W) :
    spec_settle.Rel w pr G fin (l.length + 1) v4 (.int .i64 x) (.int .i64 m2) W := by
  subst hm2
  subst hf2
  subst hx
  have hb1 := impl_queueOf.prod_bd (a := m1) (d := pr - f1) (by omega)
  refine ⟨⟨f0 + m1, f1⟩ :: l, 0, gn1 - m1 * (pr - f1), rfl, rfl, ?_, by simp, by omega, ⟨by simp only [Int.natAbs_zero]; omega, by simp only [Int.natAbs_zero]; omega⟩, hln, fun q hq => ?_, hst, hb⟩
  · rw [← hcl]
    conv => rhs; unfold impl_queueOf.close
    rw [if_neg (by simp only; omega), if_neg (by simp only; omega)]
    unfold impl_queueOf.close
    rw [if_pos (.inl rfl)]
  · rcases List.mem_cons.1 hq with rfl | hq
    · exact decide_eq_true ⟨by simp only; omega, by simp only; omega, hf⟩
    · exact hls q (List.mem_cons_of_mem _ hq)
theorem spec_settle.seg {W : World} {B gl o n cap : Nat} {f0 f1 z : Int} {l : List S31} (hQ : Kd.Q k31 31 W B (fun _ => True) (.slice (some ⟨gl, o, none⟩) n cap) (⟨f0, f1⟩ :: l)) : Kd.Q k31 31 (W.setCell ⟨gl, o, none⟩ (.int .i64 z)) B (fun _ => True) (.slice (some ⟨gl, o, none⟩) n cap) (⟨z, f1⟩ :: l) := by
  have hn : n = l.length + 1 := (Kd.Q_reads' hQ).1
  obtain ⟨c, hcl, hM, hcc, hfr⟩ := Kd.Q_elem hQ z31 0 (by omega) (by omega)
  obtain rfl := k31_openM hM
  have hs := Kd.Q_seg hQ 0 (by omega) (by omega) (seg := [.int .i64 z]) (j := 0) hcl hcc (show 0 + 1 ≤ 2 from by decide) (x' := (⟨z, f1⟩ : S31)) (k31_mkM _ _ _ (⟨z, f1⟩ : S31)) (fun _ hk => hk)
  have hw : W.setCells gl (o + (0 : Int).toNat * (k31).sz + 0) [.int .i64 z] = W.setCell ⟨gl, o, none⟩ (.int .i64 z) := by
    simp [World.setCells]
  rw [hw] at hs
  exact hs.1
theorem spec_settle.drop {W : World} {B gl o n cap : Nat} {p : S31} {l : List S31} (q : Kd.Q k31 31 W B (fun _ => True) (.slice (some ⟨gl, o, none⟩) n cap) (p :: l)) (h : cap ≠ 1) : Kd.Q k31 31 W B (fun _ => True) (.slice (some ⟨gl, o + 2, none⟩) (n - 1) (cap - 1)) l := by
  have hd := Kd.Q_drop (k := 1) q (by simp)
  rw [if_neg h] at hd
  exact hd
theorem spec_settle.drop1 {W : World} {B gl o : Nat} {p : S31} {l : List S31} (q : Kd.Q k31 31 W B (fun _ => True) (.slice (some ⟨gl, o, none⟩) 1 1) (p :: l)) : Kd.Q k31 31 W B (fun _ => True) (.slice (some ⟨gl, o, none⟩) 0 0) l := by
  have hd := Kd.Q_drop (k := 1) q (by simp)
  rw [if_pos rfl] at hd
  exact hd
set_option maxHeartbeats 4000000 in
theorem spec_settle.dist (a : Int) (ha : -9999 ≤ a ∧ a ≤ 9999) (w : World) : Calls Try.prog 44 #[.int .i64 a] w fun e w' => e = .returned (.int .i64 (if a < 0 then -a else a)) ∧ ∃ n, w' = w.drewN n :=
  (spec_distance.calls a _ w (by unfold spec_distance.f; rw [impl_queueOf.w64 (by omega) (by omega)]; split <;> rfl)).mono fun _ _ ⟨he, hw⟩ => ⟨he, hw.out⟩
theorem spec_settle.gD {gn1 X a pr f1 : Int} (hX : X = a) (ha : -9999 ≤ a ∧ a ≤ 9999) (hg : -1000000000000 ≤ gn1 ∧ gn1 ≤ 1000000000000) (hp : 1 ≤ pr ∧ pr ≤ 50000) (hf : 1 ≤ f1 ∧ f1 ≤ 50000) : wrap64 (gn1 + wrap64 (X * (pr - f1))) = gn1 + a * (pr - f1) := by
  have hb := impl_queueOf.prod_bd (a := a) (d := pr - f1) (by omega)
  rw [hX, impl_queueOf.w64 (n := a * (pr - f1)) (by omega) (by omega), impl_queueOf.w64 (by omega) (by omega)]
theorem spec_settle.gU {gn1 X a pr f1 : Int} (hX : X = -a) (ha : -9999 ≤ a ∧ a ≤ 9999) (hg : -1000000000000 ≤ gn1 ∧ gn1 ≤ 1000000000000) (hp : 1 ≤ pr ∧ pr ≤ 50000) (hf : 1 ≤ f1 ∧ f1 ≤ 50000) : wrap64 (gn1 + wrap64 (X * (f1 - pr))) = gn1 + a * (pr - f1) := by
  rw [spec_settle.gD (pr := f1) (f1 := pr) hX (by omega) hg hf hp, Int.neg_mul, ← Int.mul_neg, Int.neg_sub]
theorem spec_settle.gDp {gn1 X a pr f1 : Int} (hX : X = -a) (ha : -9999 ≤ a ∧ a ≤ 9999) (hg : -1000000000000 ≤ gn1 ∧ gn1 ≤ 1000000000000) (hp : 1 ≤ pr ∧ pr ≤ 50000) (hf : 1 ≤ f1 ∧ f1 ≤ 50000) : wrap64 (gn1 + wrap64 (X * (pr - f1))) = gn1 - a * (pr - f1) := by
  rw [spec_settle.gD hX (by omega) hg hp hf, Int.neg_mul]
  omega
theorem spec_settle.gUp {gn1 X a pr f1 : Int} (hX : X = a) (ha : -9999 ≤ a ∧ a ≤ 9999) (hg : -1000000000000 ≤ gn1 ∧ gn1 ≤ 1000000000000) (hp : 1 ≤ pr ∧ pr ≤ 50000) (hf : 1 ≤ f1 ∧ f1 ≤ 50000) : wrap64 (gn1 + wrap64 (X * (f1 - pr))) = gn1 - a * (pr - f1) := by
  rw [spec_settle.gU (a := -a) (by omega) (by omega) hg hp hf, Int.neg_mul]
  omega
set_option maxHeartbeats 40000000 in
set_option maxRecDepth 100000 in
theorem spec_settle.calls (A0 : Option Addr) (c0 : Nat) (l0 : List (S33)) (r1 : List (S31)) (r2 : Int) (w : World) (hr0 : Kd.C k33 w A0 l0.length l0) (hc0 : l0.length ≤ c0) (h : spec_settle.f l0 = some (r1, r2)) :
    Calls Try.prog 37 #[.slice A0 l0.length c0] w fun e w' => ∃ v0_ : Value, e = .returned (.tuple #[v0_, .int .i64 r2]) ∧ Kd.R k31 31 w' w.heap.size (fun _ => True) v0_ r1 ∧ Below w.heap.size w w' := by
  have HR0 := Aside0.mk hr0
  clear hr0 hc0
  unfold spec_settle.f at h
  have hg : spec_settle.good l0 = true := by
    by_cases hg : spec_settle.good l0 = true
    · exact hg
    · rw [if_neg hg] at h
      cases h
  rw [if_pos hg] at h
  have HRES := Aside0.mk (Option.some.inj h)
  clear h
  unfold spec_settle.good spec_settle.ok at hg
  simp only [Bool.and_eq_true, decide_eq_true_eq, List.all_eq_true] at hg
  obtain ⟨hln, htr⟩ := hg
  have HTR := Aside0.mk htr
  clear htr
  obtain ⟨gmax, hgm⟩ : ∃ n : Nat, 100 ≤ n := ⟨_, Nat.le_refl _⟩
  obtain ⟨G, hG⟩ : ∃ G : Int, G ≤ 1000000000000 ∧ 500000000000 ≤ G := ⟨1000000000000, by omega, by omega⟩
  go_enter Try.func37, Try.ntmps37
  go_wp2_with ((with_reducible refine gate_dst (N := 9) rfl ?_); refine Kd.R_lit k31 _ 31 ?hg (N := 9) ?hd (xs := ([] : List S31)) (inner := []) (ok := fun _ => True) (okp := fun _ => True) ?hr ?hp (fun _ hk => hk) trivial (Below.refl _ _) (Nat.le_refl _) (by simp) ?_; (case hd => rfl); (case hg => rfl); (case hr => first | (go_simp; done) | (go_simp; rfl)); (case hp => exact (Reps.none _ _)); intro v1 w1 ho1 hb1 hg1 hn1; clear hg1 hn1; have HO1 := Aside0.mk ho1; have HB1 := Aside0.mk hb1; clear ho1 hb1)
  go_loopg [4, 5, 6] l0.length (fun gg v4 v5 v6 wr => spec_settle.Out l0 w gg v4 v5 v6 wr)
  case atStart => exact ⟨0, [], 0, Nat.zero_le _, rfl, rfl, by omega, rfl, Kd.Q_of_R HO1.out, HB1.out⟩
  case round =>
    clear HO1 HB1
    obtain ⟨n, ls0, gn0, hn, rfl, rfl, hgg, hfd, hQ0, hbr⟩ := hrel
    by_cases hlt : n < l0.length
    · have hltz : (n : Int) < (l0.length : Int) := by omega
      have hnz0 : (0 : Int) ≤ (n : Int) := by omega
      obtain ⟨ad, rfl, hx0, hx1, hx2⟩ := at_T33 HR0.out (n : Int) (by omega) (by omega)
      rw [Int.toNat_natCast] at hx0 hx1 hx2
      have hmem : rd_T33 l0 (n : Int) = l0[n] := by
        unfold rd_T33
        rw [List.getD_eq_getElem?_getD, Int.toNat_natCast, List.getElem?_eq_getElem hlt]
        rfl
      rw [hmem] at hx0 hx1 hx2
      have htk : l0.take (n + 1) = l0.take n ++ [l0[n]] := by rw [List.take_succ_eq_append_getElem hlt]
      have htb := HTR.out _ (List.getElem_mem hlt)
      have hok := impl_queueOf.queue_ok (l0.take n) (fun t ht => HTR.out t (List.mem_of_mem_take ht)) ([], 0) (fun p hp => by cases hp)
      have hlk : (l0.take n).length = n := by rw [List.length_take]; omega
      rw [hlk, hfd] at hok
      simp only [List.length_nil] at hok
      clear hmem hlk
      generalize l0[n] = t at hx0 hx1 hx2 htk htb
      obtain ⟨d, m, pr⟩ := t
      simp only at hx0 hx1 hx2 htb
      have HX2 : ∀ w1, Below w.heap.size w w1 → w1.cell? ⟨(ad.add (n * 3)).block, (ad.add (n * 3)).off + 2, none⟩ = some (.int .i64 pr) := fun w1 hb => (hb.cell (World.block_lt_of_cell? w _ hx2)).trans hx2
      have HX2A := Aside0.mk HX2
      replace hx1 := (hbr.cell (World.block_lt_of_cell? w _ hx1)).trans hx1
      have hpr := htb.2
      have HTK := Aside0.mk htk
      have HFD := Aside0.mk hfd
      have HOK0 := Aside0.mk hok.1
      have HBR := Aside0.mk hbr
      have HQ0 := Aside0.mk hQ0
      have HGG0 := Aside0.mk hgg
      have hok2 : ls0.length ≤ 99 ∧ -100000000000 ≤ gn0 ∧ gn0 ≤ 100000000000 := by omega
      clear HX2 hx0 hx2 htk hfd hok hbr hQ0 hgg
      obtain ⟨fin, hfin⟩ : ∃ f, f = impl_queueOf.close pr ls0 m gn0 := ⟨_, rfl⟩
      have HFIN := Aside0.mk hfin
      clear hfin
      obtain ⟨wo, rfl⟩ : ∃ wo : World, wo = wr := ⟨_, rfl⟩
      go_wp2
      go_loopg [4, 5, 7] gmax (fun gg v4 v5 v7 wr => spec_settle.Rel w pr G fin gg v4 v5 v7 wr)
      case atStart => exact ⟨ls0, m, gn0, rfl, rfl, HFIN.out.symm, by split <;> omega, htb.1, by omega, by omega, HOK0.out, HQ0.out, HBR.out⟩
      case round =>
        obtain ⟨ls1, m1, gn1, rfl, rfl, hcl, hgg, hm1, hG1, hlen1, hls1, hQ1, hbr⟩ := hrel
        clear hx1
        have hxp := HX2A.out _ hbr
        have HCL := Aside0.mk hcl
        have HQ := Aside0.mk hQ1
        have HB := Aside0.mk hbr
        have HLS1 := Aside0.mk hls1
        have HPL := Aside0.mk hlen1
        have HGG := Aside0.mk hgg
        clear hcl hQ1 hbr hls1 hlen1 hgg HQ0 HBR
        by_cases c0 : m1 = 0
        · subst c0
          obtain ⟨A, cp, rfl, hcp⟩ := Kd.Q_slice HQ.out
          go_wp2
          have e : fin = (ls1, 0, gn1) := by
            rw [← HCL.out]
            cases ls1 with
            | nil => rfl
            | cons p l => unfold impl_queueOf.close; rw [if_pos (.inl rfl)]
          have HE : Aside0 ((l0.take (n + 1)).foldl impl_queueOf.take ([], 0) = (ls1, gn1)) := ⟨by rw [HTK.out, List.foldl_append, HFD.out]; simp only [List.foldl_cons, List.foldl_nil, impl_queueOf.take]; rw [← HFIN.out, e]; rfl⟩
          clear e
          go_roundg (l0.length - (n + 1))
          case measure => have := HGG0.out; omega
          case rel => exact ⟨n + 1, ls1, gn1, by omega, by go_num, rfl, Nat.le_refl _, HE.out, HQ.out, HB.out⟩
        · have c0b : (m1 != 0) = true := by simpa using c0
          by_cases c1 : ls1 = []
          · subst c1
            obtain ⟨A, cp, rfl, hcp⟩ := Kd.Q_slice HQ.out
            go_wp2_with ((with_reducible refine gate_builtin (b := .append) (xs := #[.tmp 109, .tmp 117]) rfl ?_); at_builtin; refine Kd.Q_append k31 (w0 := w) w.heap.size rfl (.tmp 109) (.tmp 117) 28 31 (.agg #[(.int .i64 0), (.int .i64 0)]) 16 rfl Try.underlying28 impl_queueOf.infoL rfl (by decide) (by omega) (.slice A ([] : List S31).length cp) ([] : List S31) (⟨m1, pr⟩ : S31) [.int .i64 m1, .int .i64 pr] (fun _ => True) (fun _ => False) rfl rfl (k31_mkM _ _ _ (⟨m1, pr⟩ : S31)) (fun _ hk => hk.elim) (fun _ _ => trivial) HQ.out HB.out HB.out.size (by simp) ?_; intro v9 w9 ho hb hgr hat; have HO9 := Aside0.mk ho; have HB9 := Aside0.mk hb; clear ho hb hgr hat)
            have e : fin = ([], m1, gn1) := by rw [← HCL.out]; rfl
            have HE : Aside0 ((l0.take (n + 1)).foldl impl_queueOf.take ([], 0) = (([] : List S31) ++ [⟨m1, pr⟩], gn1)) := ⟨by rw [HTK.out, List.foldl_append, HFD.out]; simp only [List.foldl_cons, List.foldl_nil, impl_queueOf.take]; rw [← HFIN.out, e]; simp only [if_neg c0]⟩
            clear e
            go_roundg (l0.length - (n + 1))
            case measure => have := HGG0.out; omega
            case rel => exact ⟨n + 1, ([] : List S31) ++ [⟨m1, pr⟩], gn1, by omega, by go_num, rfl, Nat.le_refl _, HE.out, HO9.out, HB9.out⟩
          · obtain ⟨p, l, rfl⟩ : ∃ p l, ls1 = p :: l := by
              cases ls1 with
              | nil => exact absurd rfl c1
              | cons p l => exact ⟨p, l, rfl⟩
            clear c1
            obtain ⟨gl, o, n1, cap, rfl, hn1e, hBl, hnc, ⟨cells, hgl⟩, hy0, hy1, hyf, hQ2⟩ := impl_queueOf.head HQ.out
            have HQ1 := Aside0.mk hQ2
            have hp := impl_queueOf.okL_of (HLS1.out p List.mem_cons_self)
            have hnz : 0 < n1 := by omega
            have hni : (0 : Int) < (n1 : Int) := by omega
            have hn1 : 1 ≤ n1 := by omega
            have HN := Aside0.mk hn1e
            clear hQ2 hgl HQ hn1e
            obtain ⟨f0, f1⟩ := p
            simp only at hy0 hy1 hp
            have hd0 : decide (0 < (n1 : Int)) = true := decide_eq_true hni
            by_cases s1 : 0 < f0
            · have hs1 : decide (0 < f0) = true := decide_eq_true s1
              by_cases s2 : 0 < m1
              · have hs2 : decide (0 < m1) = true := decide_eq_true s2
                go_wp2_with ((with_reducible refine gate_builtin (b := .append) (xs := #[.tmp 109, .tmp 117]) rfl ?_); at_builtin; refine Kd.Q_append k31 (w0 := w) w.heap.size rfl (.tmp 109) (.tmp 117) 28 31 (.agg #[(.int .i64 0), (.int .i64 0)]) 16 rfl Try.underlying28 impl_queueOf.infoL rfl (by decide) (by omega) (.slice (some ⟨gl, o, none⟩) n1 cap) (⟨f0, f1⟩ :: l : List S31) (⟨m1, pr⟩ : S31) [.int .i64 m1, .int .i64 pr] (fun _ => True) (fun _ => False) rfl rfl (k31_mkM _ _ _ (⟨m1, pr⟩ : S31)) (fun _ hk => hk.elim) (fun _ _ => trivial) HQ1.out HB.out HB.out.size (by have := HPL.out; omega) ?_; intro v9 w9 ho hb hgr hat; have HO9 := Aside0.mk ho; have HB9 := Aside0.mk hb; clear ho hb hgr hat)
                have e : fin = (⟨f0, f1⟩ :: l, m1, gn1) := by
                  rw [← HCL.out]
                  unfold impl_queueOf.close
                  rw [if_pos (.inr (by simp only; omega))]
                have HE : Aside0 ((l0.take (n + 1)).foldl impl_queueOf.take ([], 0) = ((⟨f0, f1⟩ :: l : List S31) ++ [⟨m1, pr⟩], gn1)) := ⟨by rw [HTK.out, List.foldl_append, HFD.out]; simp only [List.foldl_cons, List.foldl_nil, impl_queueOf.take]; rw [← HFIN.out, e]; simp only [if_neg c0]⟩
                clear e
                go_roundg (l0.length - (n + 1))
                case measure => have := HGG0.out; omega
                case rel => exact ⟨n + 1, (⟨f0, f1⟩ :: l : List S31) ++ [⟨m1, pr⟩], gn1, by omega, by go_num, rfl, Nat.le_refl _, HE.out, HO9.out, HB9.out⟩
              · have hs2 : decide (0 < m1) = false := decide_eq_false s2
                have HDM := Aside0.mk (fun W => (show Calls Try.prog 44 #[.int .i64 m1] W fun e w' => e = .returned (.int .i64 (-m1)) ∧ ∃ n, w' = W.drewN n from by have := spec_settle.dist m1 hm1 W; rwa [if_pos (by omega)] at this))
                have HDF := Aside0.mk (fun W => (show Calls Try.prog 44 #[.int .i64 f0] W fun e w' => e = .returned (.int .i64 (f0)) ∧ ∃ n, w' = W.drewN n from by have := spec_settle.dist f0 hp.1 W; rwa [if_neg (by omega)] at this))
                by_cases h3 : f0 ≤ -m1
                · by_cases hcap : cap = 1
                  · have hcap2 : n1 = 1 := by omega
                    subst hcap
                    subst hcap2
                    clear hd0 hni hnz hn1
                    by_cases h4 : f0 < -m1
                    · have HG1 := Aside0.mk hG1
                      clear hG1
                      go_wp2
                      go_quiet ((first | (go_at_call 44; exact Calls.quiet_of (HDM.out _)) | (go_at_call 44; exact Calls.quiet_of (HDF.out _))))
                      all_goals
                        go_wp2
                        go_quiet (fail)
                        go_wp2
                        go_roundg (l.length + 1)
                        case measure =>
                          have := HGG.out
                          simp only [List.length_cons, if_neg c0] at this
                          omega
                        case rel =>
                          have hgb : -1000000000000 ≤ gn1 ∧ gn1 ≤ 1000000000000 := by have := HG1.out; omega
                          exact spec_settle.rel_drop HCL.out (by omega) hm1 hp.2.2 hpr HG1.out HPL.out HLS1.out (by omega) (spec_settle.gD (by omega) hp.1 hgb hpr hp.2.2) (spec_settle.drop1 (spec_settle.seg (Kd.Q_drewN HQ1.out _))) ((pw_below_drewN HB.out _).setCell hBl _)
                    · obtain rfl : m1 = -f0 := by omega
                      clear h3 h4
                      have c0c : (f0 != 0) = true := by simp; omega
                      have c0d : (f0 == 0) = false := by simp; omega
                      have hs3 : decide (f0 < 0) = false := decide_eq_false (by omega)
                      have HG1 := Aside0.mk hG1
                      clear hG1
                      go_wp2
                      go_quiet ((first | (go_at_call 44; exact Calls.quiet_of (HDM.out _)) | (go_at_call 44; exact Calls.quiet_of (HDF.out _))))
                      all_goals
                        go_wp2
                        go_quiet (fail)
                        go_wp2
                        go_roundg (l.length + 1)
                        case measure =>
                          have := HGG.out
                          simp only [List.length_cons, if_neg c0] at this
                          omega
                        case rel =>
                          have hgb : -1000000000000 ≤ gn1 ∧ gn1 ≤ 1000000000000 := by have := HG1.out; omega
                          exact spec_settle.rel_drop HCL.out (by omega) hm1 hp.2.2 hpr HG1.out HPL.out HLS1.out (by omega) (spec_settle.gD (by omega) hp.1 hgb hpr hp.2.2) (spec_settle.drop1 (spec_settle.seg (Kd.Q_drewN HQ1.out _))) ((pw_below_drewN HB.out _).setCell hBl _)
                  · have hcap2 : 1 < cap := by omega
                    by_cases h4 : f0 < -m1
                    · have HG1 := Aside0.mk hG1
                      clear hG1
                      go_wp2
                      go_quiet ((first | (go_at_call 44; exact Calls.quiet_of (HDM.out _)) | (go_at_call 44; exact Calls.quiet_of (HDF.out _))))
                      all_goals
                        go_wp2
                        go_quiet (fail)
                        go_wp2
                        go_roundg (l.length + 1)
                        case measure =>
                          have := HGG.out
                          simp only [List.length_cons, if_neg c0] at this
                          omega
                        case rel =>
                          have hgb : -1000000000000 ≤ gn1 ∧ gn1 ≤ 1000000000000 := by have := HG1.out; omega
                          exact spec_settle.rel_drop HCL.out (by omega) hm1 hp.2.2 hpr HG1.out HPL.out HLS1.out (by omega) (spec_settle.gD (by omega) hp.1 hgb hpr hp.2.2) (spec_settle.drop (spec_settle.seg (Kd.Q_drewN HQ1.out _)) hcap) ((pw_below_drewN HB.out _).setCell hBl _)
                    · obtain rfl : m1 = -f0 := by omega
                      clear h3 h4
                      have c0c : (f0 != 0) = true := by simp; omega
                      have c0d : (f0 == 0) = false := by simp; omega
                      have hs3 : decide (f0 < 0) = false := decide_eq_false (by omega)
                      have HG1 := Aside0.mk hG1
                      clear hG1
                      go_wp2
                      go_quiet ((first | (go_at_call 44; exact Calls.quiet_of (HDM.out _)) | (go_at_call 44; exact Calls.quiet_of (HDF.out _))))
                      all_goals
                        go_wp2
                        go_quiet (fail)
                        go_wp2
                        go_roundg (l.length + 1)
                        case measure =>
                          have := HGG.out
                          simp only [List.length_cons, if_neg c0] at this
                          omega
                        case rel =>
                          have hgb : -1000000000000 ≤ gn1 ∧ gn1 ≤ 1000000000000 := by have := HG1.out; omega
                          exact spec_settle.rel_drop HCL.out (by omega) hm1 hp.2.2 hpr HG1.out HPL.out HLS1.out (by omega) (spec_settle.gD (by omega) hp.1 hgb hpr hp.2.2) (spec_settle.drop (spec_settle.seg (Kd.Q_drewN HQ1.out _)) hcap) ((pw_below_drewN HB.out _).setCell hBl _)
                · have HG1 := Aside0.mk hG1
                  clear hG1
                  go_wp2
                  go_quiet ((first | (go_at_call 44; exact Calls.quiet_of (HDM.out _)) | (go_at_call 44; exact Calls.quiet_of (HDF.out _))))
                  all_goals
                    go_wp2
                    go_quiet (fail)
                    go_wp2
                    go_roundg (l.length + 1)
                    case measure =>
                      have := HGG.out
                      simp only [List.length_cons, if_neg c0] at this
                      omega
                    case rel =>
                      have hgb : -1000000000000 ≤ gn1 ∧ gn1 ≤ 1000000000000 := by have := HG1.out; omega
                      exact spec_settle.rel_part HCL.out (by omega) hm1 hp.2.2 hp.1 hpr HG1.out HPL.out HLS1.out (by omega) (by omega) (spec_settle.gDp (by omega) hm1 hgb hpr hp.2.2) (spec_settle.seg (Kd.Q_drewN HQ1.out _)) ((pw_below_drewN HB.out _).setCell hBl _)
            · have hs1 : decide (0 < f0) = false := decide_eq_false s1
              by_cases s2 : 0 < m1
              · have hs2 : decide (0 < m1) = true := decide_eq_true s2
                have HDM := Aside0.mk (fun W => (show Calls Try.prog 44 #[.int .i64 m1] W fun e w' => e = .returned (.int .i64 (m1)) ∧ ∃ n, w' = W.drewN n from by have := spec_settle.dist m1 hm1 W; rwa [if_neg (by omega)] at this))
                have HDF := Aside0.mk (fun W => (show Calls Try.prog 44 #[.int .i64 f0] W fun e w' => e = .returned (.int .i64 (-f0)) ∧ ∃ n, w' = W.drewN n from by have := spec_settle.dist f0 hp.1 W; rwa [if_pos (by omega)] at this))
                by_cases h3 : -f0 ≤ m1
                · by_cases hcap : cap = 1
                  · have hcap2 : n1 = 1 := by omega
                    subst hcap
                    subst hcap2
                    clear hd0 hni hnz hn1
                    by_cases h4 : -f0 < m1
                    · have HG1 := Aside0.mk hG1
                      clear hG1
                      go_wp2
                      go_quiet ((first | (go_at_call 44; exact Calls.quiet_of (HDM.out _)) | (go_at_call 44; exact Calls.quiet_of (HDF.out _))))
                      all_goals
                        go_wp2
                        go_quiet (fail)
                        go_wp2
                        go_roundg (l.length + 1)
                        case measure =>
                          have := HGG.out
                          simp only [List.length_cons, if_neg c0] at this
                          omega
                        case rel =>
                          have hgb : -1000000000000 ≤ gn1 ∧ gn1 ≤ 1000000000000 := by have := HG1.out; omega
                          exact spec_settle.rel_drop HCL.out (by omega) hm1 hp.2.2 hpr HG1.out HPL.out HLS1.out (by omega) (spec_settle.gU (by omega) hp.1 hgb hpr hp.2.2) (spec_settle.drop1 (spec_settle.seg (Kd.Q_drewN HQ1.out _))) ((pw_below_drewN HB.out _).setCell hBl _)
                    · obtain rfl : m1 = -f0 := by omega
                      clear h3 h4
                      have HG1 := Aside0.mk hG1
                      clear hG1
                      go_wp2
                      go_quiet ((first | (go_at_call 44; exact Calls.quiet_of (HDM.out _)) | (go_at_call 44; exact Calls.quiet_of (HDF.out _))))
                      all_goals
                        go_wp2
                        go_quiet (fail)
                        go_wp2
                        go_roundg (l.length + 1)
                        case measure =>
                          have := HGG.out
                          simp only [List.length_cons, if_neg c0] at this
                          omega
                        case rel =>
                          have hgb : -1000000000000 ≤ gn1 ∧ gn1 ≤ 1000000000000 := by have := HG1.out; omega
                          exact spec_settle.rel_drop HCL.out (by omega) hm1 hp.2.2 hpr HG1.out HPL.out HLS1.out (by omega) (spec_settle.gU (by omega) hp.1 hgb hpr hp.2.2) (spec_settle.drop1 (spec_settle.seg (Kd.Q_drewN HQ1.out _))) ((pw_below_drewN HB.out _).setCell hBl _)
                  · have hcap2 : 1 < cap := by omega
                    by_cases h4 : -f0 < m1
                    · have HG1 := Aside0.mk hG1
                      clear hG1
                      go_wp2
                      go_quiet ((first | (go_at_call 44; exact Calls.quiet_of (HDM.out _)) | (go_at_call 44; exact Calls.quiet_of (HDF.out _))))
                      all_goals
                        go_wp2
                        go_quiet (fail)
                        go_wp2
                        go_roundg (l.length + 1)
                        case measure =>
                          have := HGG.out
                          simp only [List.length_cons, if_neg c0] at this
                          omega
                        case rel =>
                          have hgb : -1000000000000 ≤ gn1 ∧ gn1 ≤ 1000000000000 := by have := HG1.out; omega
                          exact spec_settle.rel_drop HCL.out (by omega) hm1 hp.2.2 hpr HG1.out HPL.out HLS1.out (by omega) (spec_settle.gU (by omega) hp.1 hgb hpr hp.2.2) (spec_settle.drop (spec_settle.seg (Kd.Q_drewN HQ1.out _)) hcap) ((pw_below_drewN HB.out _).setCell hBl _)
                    · obtain rfl : m1 = -f0 := by omega
                      clear h3 h4
                      have HG1 := Aside0.mk hG1
                      clear hG1
                      go_wp2
                      go_quiet ((first | (go_at_call 44; exact Calls.quiet_of (HDM.out _)) | (go_at_call 44; exact Calls.quiet_of (HDF.out _))))
                      all_goals
                        go_wp2
                        go_quiet (fail)
                        go_wp2
                        go_roundg (l.length + 1)
                        case measure =>
                          have := HGG.out
                          simp only [List.length_cons, if_neg c0] at this
                          omega
                        case rel =>
                          have hgb : -1000000000000 ≤ gn1 ∧ gn1 ≤ 1000000000000 := by have := HG1.out; omega
                          exact spec_settle.rel_drop HCL.out (by omega) hm1 hp.2.2 hpr HG1.out HPL.out HLS1.out (by omega) (spec_settle.gU (by omega) hp.1 hgb hpr hp.2.2) (spec_settle.drop (spec_settle.seg (Kd.Q_drewN HQ1.out _)) hcap) ((pw_below_drewN HB.out _).setCell hBl _)
                · have HG1 := Aside0.mk hG1
                  clear hG1
                  go_wp2
                  go_quiet ((first | (go_at_call 44; exact Calls.quiet_of (HDM.out _)) | (go_at_call 44; exact Calls.quiet_of (HDF.out _))))
                  all_goals
                    go_wp2
                    go_quiet (fail)
                    go_wp2
                    go_roundg (l.length + 1)
                    case measure =>
                      have := HGG.out
                      simp only [List.length_cons, if_neg c0] at this
                      omega
                    case rel =>
                      have hgb : -1000000000000 ≤ gn1 ∧ gn1 ≤ 1000000000000 := by have := HG1.out; omega
                      exact spec_settle.rel_part HCL.out (by omega) hm1 hp.2.2 hp.1 hpr HG1.out HPL.out HLS1.out (by omega) (by omega) (spec_settle.gUp (by omega) hm1 hgb hpr hp.2.2) (spec_settle.seg (Kd.Q_drewN HQ1.out _)) ((pw_below_drewN HB.out _).setCell hBl _)
              · have hs2 : decide (0 < m1) = false := decide_eq_false s2
                go_wp2_with ((with_reducible refine gate_builtin (b := .append) (xs := #[.tmp 109, .tmp 117]) rfl ?_); at_builtin; refine Kd.Q_append k31 (w0 := w) w.heap.size rfl (.tmp 109) (.tmp 117) 28 31 (.agg #[(.int .i64 0), (.int .i64 0)]) 16 rfl Try.underlying28 impl_queueOf.infoL rfl (by decide) (by omega) (.slice (some ⟨gl, o, none⟩) n1 cap) (⟨f0, f1⟩ :: l : List S31) (⟨m1, pr⟩ : S31) [.int .i64 m1, .int .i64 pr] (fun _ => True) (fun _ => False) rfl rfl (k31_mkM _ _ _ (⟨m1, pr⟩ : S31)) (fun _ hk => hk.elim) (fun _ _ => trivial) HQ1.out HB.out HB.out.size (by have := HPL.out; omega) ?_; intro v9 w9 ho hb hgr hat; have HO9 := Aside0.mk ho; have HB9 := Aside0.mk hb; clear ho hb hgr hat)
                have e : fin = (⟨f0, f1⟩ :: l, m1, gn1) := by
                  rw [← HCL.out]
                  unfold impl_queueOf.close
                  rw [if_pos (.inr (by simp only; omega))]
                have HE : Aside0 ((l0.take (n + 1)).foldl impl_queueOf.take ([], 0) = ((⟨f0, f1⟩ :: l : List S31) ++ [⟨m1, pr⟩], gn1)) := ⟨by rw [HTK.out, List.foldl_append, HFD.out]; simp only [List.foldl_cons, List.foldl_nil, impl_queueOf.take]; rw [← HFIN.out, e]; simp only [if_neg c0]⟩
                clear e
                go_roundg (l0.length - (n + 1))
                case measure => have := HGG0.out; omega
                case rel => exact ⟨n + 1, (⟨f0, f1⟩ :: l : List S31) ++ [⟨m1, pr⟩], gn1, by omega, by go_num, rfl, Nat.le_refl _, HE.out, HO9.out, HB9.out⟩
    · have hltz : ¬ (n : Int) < (l0.length : Int) := by omega
      obtain rfl : n = l0.length := by omega
      have hres := HRES.out
      unfold impl_queueOf.queue at hres
      rw [List.take_length] at hfd
      rw [hfd] at hres
      injection hres with e1 e2
      subst e1
      subst e2
      have HQ := Aside0.mk hQ0
      have HB := Aside0.mk hbr
      clear hQ0 hbr hgg hfd
      obtain ⟨A, cp, rfl, hcp⟩ := Kd.Q_slice HQ.out
      have hlen9 : ls0.length ≤ 1000 := by
        have hq := (impl_queueOf.queue_ok l0 HTR.out ([], 0) (fun p hp => by cases hp)).2.1
        have h2 := HRES.out
        unfold impl_queueOf.queue at h2
        rw [h2] at hq
        simp only [List.length_nil] at hq
        omega
      have HL := Aside0.mk hlen9
      clear hlen9
      go_wp2_with (first
        | ((with_reducible refine gate_dst (N := 119) rfl ?_); refine Kd.R_lit k31 _ 31 ?hg (N := 119) ?hd (xs := ([] : List S31)) (inner := []) (ok := fun _ => True) (okp := fun _ => True) ?hr ?hp (fun _ hk => hk) trivial (Below.refl _ _) (Nat.le_refl _) (by simp) ?_; (case hd => rfl); (case hg => rfl); (case hr => first | (go_simp; done) | (go_simp; rfl)); (case hp => exact (Reps.none _ _)); intro v8 w8 ho8 hb8 hg8 hn8; clear hg8 hn8; have HO8 := Aside0.mk (Kd.R_lower ho8 HB.out.size); have HQ8 := Aside0.mk (Kd.Q_below HQ.out hb8); have HB8 := Aside0.mk (HB.out.trans (hb8.mono HB.out.size)); clear ho8 hb8)
        | ((with_reducible refine gate_builtin (b := .append) (xs := #[.tmp 119, .tmp 120]) rfl ?_); at_builtin; refine Kd.R_append_rows k31 (w0 := w) w.heap.size rfl (.tmp 119) (.tmp 120) 28 31 (.agg #[(.int .i64 0), (.int .i64 0)]) 16 rfl Try.underlying28 impl_queueOf.infoL rfl (by decide) (by omega) v8 [] ls0 _ _ _ (fun _ => True) (fun _ => False) rfl rfl HO8.out (Kd.Q_reads' HQ8.out).2.2 (fun _ _ h => h) (fun _ h => h.elim) (fun _ _ => trivial) HB8.out HB8.out.size (by have := HL.out; simp only [List.length_nil]; omega) ?_; intro v9 w9 ho9 hb9 hg9 hat9; have HO9 := Aside0.mk ho9; have HB9 := Aside0.mk hb9; clear ho9 hb9 hg9 hat9))
      go_ret2
      exact ⟨_, rfl, HO9.out, HB9.out⟩


/-! ### spec_LotsOf: function 24 -/
def spec_LotsOf.f (k : Nat) (l0 : List (S33)) : Option ((List (S31))) := (spec_validTrades.f k l0).bind fun t127 => (if t127 = true then ((spec_settle.f l0).bind fun bt128 => (some bt128.1)) else (some ([] : List (S31))))
theorem spec_LotsOf.mono : ∀ a0 k, LeO (spec_LotsOf.f k a0) (spec_LotsOf.f (k + 1) a0) := by
  intro a0 k
  unfold spec_LotsOf.f
  repeat' first
      | (with_reducible exact spec_validTrades.mono _ _)
      | (with_reducible exact LeO.refl _)
      | (with_reducible exact LeO.none _)
      | (with_reducible refine LeO.ite ?_ ?_)
      | (with_reducible refine LeO.bind ?_ (fun _ => ?_))
      | exact spec_validTrades.mono _ _
      | exact LeO.none _
      | refine LeO.ite ?_ ?_
      | refine LeO.bind ?_ (fun _ => ?_)
set_option maxHeartbeats 8000000 in
set_option maxRecDepth 100000 in
theorem spec_LotsOf.calls (k : Nat) (A0 : Option Addr) (c0 : Nat) (l0 : List (S33)) (r : List (S31)) (w : World) (hr0 : Kd.C k33 w A0 l0.length l0) (hc0 : l0.length ≤ c0) (h : spec_LotsOf.f k l0 = some r) :
    Calls Try.prog 24 #[.slice A0 l0.length c0] w fun e w' => ∃ v0_ : Value, e = .returned (v0_) ∧ Kd.R k31 31 w' w.heap.size (fun _ => True) v0_ r ∧ Below w.heap.size w w' := by
  have HR0 := Aside0.mk hr0
  have HC0 := Aside0.mk hc0
  clear hr0 hc0
  have HB := Aside0.mk (Below.refl w.heap.size w)
  have H : ((spec_validTrades.f k l0).bind fun t127 => (if t127 = true then ((spec_settle.f l0).bind fun bt128 => (some bt128.1)) else (some ([] : List (S31))))) = some r := h
  clear h
  replace H := Option.bind_eq_some_iff.mp H
  obtain ⟨t127, A20, H⟩ := H
  replace H : (if t127 = true then ((spec_settle.f l0).bind fun bt128 => (some bt128.1)) else (some ([] : List (S31)))) = some r := H
  have A2 := Aside0.mk A20
  clear A20
  by_cases c3 : t127 = true
  · subst c3
    have H1 : ((spec_settle.f l0).bind fun bt128 => (some bt128.1)) = some r := by rw [if_pos rfl] at H; exact H
    clear H
    have H := H1
    clear H1
    replace H := Option.bind_eq_some_iff.mp H
    obtain ⟨⟨t128, t129⟩, A40, H⟩ := H
    replace H : (some t128) = some r := H
    have A4 := Aside0.mk A40
    clear A40
    obtain rfl := Option.some.inj H
    go_enter Try.func24, Try.ntmps24
    go_wp2_with (first | ((with_reducible refine gate_callee (f := 32) rfl ?_); refine goesL_ (some 6) rfl rfl Try.func32 (by kernel_rfl) rfl #[.slice A0 l0.length c0] rfl (by (try simp only [List.map_toArray, List.map_cons, List.map_nil]); first | done | rfl | (simp only [List.length_drop, List.length_take]; rfl)) ?_; (with_reducible refine (spec_validTrades.calls k _ _ l0 true _ ?side1 ?side2 A2.out).mono ?_); (case side1 => repeat (first | exact HR0.out | (with_reducible refine Kd.C_alloc ?_ _) | (with_reducible refine Kd.C_drewN ?_ _) | (with_reducible refine Kd.C_drew ?_))); (case side2 => exact HC0.out); rintro e w5 ⟨rfl, hb⟩; refine ⟨_, rfl, ?_⟩; have n0_ := Aside0.mk (below_step (by repeat (first | (with_reducible first | exact HB.out | apply below_alloc | apply pw_below_drewN | apply below_drew1) | exact HB.out)) hb); clear HB; have HB := n0_; clear n0_; (try clear hb); (try clear hb2); (try clear hk); (try clear hi)) | ((with_reducible refine gate_callee (f := 37) rfl ?_); refine goesL_ (some 10) rfl rfl Try.func37 (by kernel_rfl) rfl #[.slice A0 l0.length c0] rfl (by (try simp only [List.map_toArray, List.map_cons, List.map_nil]); first | done | rfl | (simp only [List.length_drop, List.length_take]; rfl)) ?_; (with_reducible refine (spec_settle.calls _ _ l0 t128 t129 _ ?side1 ?side2 A4.out).mono ?_); (case side1 => repeat (first | exact (Kd.C_below HR0.out HB.out) | (with_reducible refine Kd.C_alloc ?_ _) | (with_reducible refine Kd.C_drewN ?_ _) | (with_reducible refine Kd.C_drew ?_))); (case side2 => exact HC0.out); rintro e w6 ⟨v130, rfl, ho0, hb⟩; refine ⟨_, rfl, ?_⟩; have n0_ := Aside0.mk (Kd.R_lower ho0 (below_size (by repeat (first | (with_reducible first | exact HB.out | apply below_alloc | apply pw_below_drewN | apply below_drew1) | exact HB.out)))); have n1_ := Aside0.mk (below_step (by repeat (first | (with_reducible first | exact HB.out | apply below_alloc | apply pw_below_drewN | apply below_drew1) | exact HB.out)) hb); clear HB; have HO131 := n0_; have HB := n1_; clear n0_ n1_; (try clear hb); (try clear hb2); (try clear hk); (try clear hi); (try clear ho0)))
    go_ret
    exact ⟨_, by first | rfl | (simp [errW_none, errW_some] <;> rfl) | (simp [*, errW_none, errW_some] <;> rfl), by (with_reducible repeat (first | apply Kd.R_alloc | apply Kd.R_drewN | apply Kd.R_drew)); exact HO131.out, by repeat (first | (with_reducible first | exact HB.out | apply below_alloc | apply pw_below_drewN | apply below_drew1) | exact HB.out)⟩
  · replace c3 := Bool.eq_false_iff.mpr c3
    subst c3
    have H1 : (some ([] : List (S31))) = some r := by rw [if_neg (show ¬ (false = true) by decide)] at H; exact H
    clear H
    have H := H1
    clear H1
    obtain rfl := Option.some.inj H
    go_enter Try.func24, Try.ntmps24
    go_wp2_with (first | ((with_reducible refine gate_callee (f := 32) rfl ?_); refine goesL_ (some 6) rfl rfl Try.func32 (by kernel_rfl) rfl #[.slice A0 l0.length c0] rfl (by (try simp only [List.map_toArray, List.map_cons, List.map_nil]); first | done | rfl | (simp only [List.length_drop, List.length_take]; rfl)) ?_; (with_reducible refine (spec_validTrades.calls k _ _ l0 false _ ?side1 ?side2 A2.out).mono ?_); (case side1 => repeat (first | exact HR0.out | (with_reducible refine Kd.C_alloc ?_ _) | (with_reducible refine Kd.C_drewN ?_ _) | (with_reducible refine Kd.C_drew ?_))); (case side2 => exact HC0.out); rintro e w7 ⟨rfl, hb⟩; refine ⟨_, rfl, ?_⟩; have n0_ := Aside0.mk (below_step (by repeat (first | (with_reducible first | exact HB.out | apply below_alloc | apply pw_below_drewN | apply below_drew1) | exact HB.out)) hb); clear HB; have HB := n0_; clear n0_; (try clear hb); (try clear hb2); (try clear hk); (try clear hi)))
    go_ret
    exact ⟨_, by first | rfl | (simp [errW_none, errW_some] <;> rfl) | (simp [*, errW_none, errW_some] <;> rfl), by first | exact Kd.R_nil _ _ _ _ _ | exact Kd.N_nil _ _ _ _ _ | exact Kd.V_nil _ _ _ _ _ | exact Kd.Q_nil _ _ _ _ _ | exact Kd.S_nil _ _ _ _ _, by repeat (first | (with_reducible first | exact HB.out | apply below_alloc | apply pw_below_drewN | apply below_drew1) | exact HB.out)⟩

/-! ### laws_eqLot: function 40 -/
def laws_eqLot.f (a0_0 : Int) (a0_1 : Int) (a1_0 : Int) (a1_1 : Int) : Option (Bool) := if a0_0 = a1_0 then (if a0_1 = a1_1 then (some true) else (some false)) else (some false)
set_option maxHeartbeats 8000000 in
set_option maxRecDepth 100000 in
theorem laws_eqLot.calls (a0_0 : Int) (a0_1 : Int) (a1_0 : Int) (a1_1 : Int) (r : Bool) (w : World) (h : laws_eqLot.f a0_0 a0_1 a1_0 a1_1 = some r) :
    Calls Try.prog 40 #[.agg #[.int .i64 a0_0, .int .i64 a0_1], .agg #[.int .i64 a1_0, .int .i64 a1_1]] w fun e w' => e = .returned (.bool r) ∧ Below w.heap.size w w' := by
  have hu31 := Try.underlying31
  have HB := Aside0.mk (Below.refl w.heap.size w)
  have H : (if a0_0 = a1_0 then (if a0_1 = a1_1 then (some true) else (some false)) else (some false)) = some r := h
  clear h
  by_cases c3 : a0_0 = a1_0
  · rw [if_pos c3] at H
    have c3b0 : (a0_0 == a1_0) = true := beq_iff_eq.mpr c3
    have c3b1 : (a0_0 != a1_0) = false := bne_eq_false_iff_eq.mpr c3
    clear c3
    by_cases c4 : a0_1 = a1_1
    · rw [if_pos c4] at H
      have c4b0 : (a0_1 == a1_1) = true := beq_iff_eq.mpr c4
      have c4b1 : (a0_1 != a1_1) = false := bne_eq_false_iff_eq.mpr c4
      clear c4
      obtain rfl := Option.some.inj H
      go_enter Try.func40, Try.ntmps40
      go_wp2_with (first | ((with_reducible refine gate_dst (N := 2) rfl ?_); refine box_event ?hg (N := 2) ?hd (cs := #[.int .i64 a0_0, .int .i64 a0_1]) (t := 31) ?hr ?_; (case hd => rfl); (case hg => rfl); (case hr => first | (go_simp; done) | (go_simp; rfl)); intro gb132 hg w5 hbox hb; have n0_ := Aside0.mk (below_step (by repeat (first | (with_reducible first | exact HB.out | apply below_alloc | apply pw_below_drewN | apply below_drew1) | exact HB.out)) hb); have n1_ := Aside0.mk (hbox); have n2_ := Aside0.mk ((by rw [hg]; exact (below_size (by repeat (first | (with_reducible first | exact HB.out | apply below_alloc | apply pw_below_drewN | apply below_drew1) | exact HB.out))) : w.heap.size ≤ gb132)); have n3_ := Aside0.mk ((by rw [hg]; exact (below_size (by repeat (first | (with_reducible first | exact HB.out | apply below_alloc | apply pw_below_drewN | apply below_drew1) | exact HB.out))) : w.heap.size ≤ gb132)); clear HB; have HB := n0_; have BK132 := n1_; have GW132 := n2_; have GE132 := n3_; clear n0_ n1_ n2_ n3_; clear hb hbox hg) | ((with_reducible refine gate_dst (N := 3) rfl ?_); refine box_event ?hg (N := 3) ?hd (cs := #[.int .i64 a1_0, .int .i64 a1_1]) (t := 31) ?hr ?_; (case hd => rfl); (case hg => rfl); (case hr => first | (go_simp; done) | (go_simp; rfl)); intro gb133 hg w6 hbox hb; have n0_ := Aside0.mk (blk_below (g := gb132) (o := .cells #[.int .i64 a0_0, .int .i64 a0_1] 31 (0, 0)) (by (with_reducible repeat (first | refine blk_drewN ?_ _ | refine blk_drew ?_ | refine blk_alloc ?_ _)); exact BK132.out) hb); have n1_ := Aside0.mk (below_step (by repeat (first | (with_reducible first | exact HB.out | apply below_alloc | apply pw_below_drewN | apply below_drew1 | refine below_set ?_ GE132.out) | exact HB.out)) hb); have n2_ := Aside0.mk (hbox); have n3_ := Aside0.mk ((by rw [hg]; exact (below_size (by repeat (first | (with_reducible first | exact HB.out | apply below_alloc | apply pw_below_drewN | apply below_drew1 | refine below_set ?_ GE132.out) | exact HB.out))) : w.heap.size ≤ gb133)); have n4_ := Aside0.mk ((by rw [hg]; exact (below_size (by repeat (first | (with_reducible first | exact HB.out | apply below_alloc | apply pw_below_drewN | apply below_drew1 | refine below_set ?_ GE132.out) | exact HB.out))) : w.heap.size ≤ gb133)); have n5_ := Aside0.mk ((by rw [hg]; exact Nat.ne_of_lt (blk_lt (g := gb132) (o := .cells #[.int .i64 a0_0, .int .i64 a0_1] 31 (0, 0)) (by (with_reducible repeat (first | refine blk_drewN ?_ _ | refine blk_drew ?_ | refine blk_alloc ?_ _)); exact BK132.out)) : gb132 ≠ gb133)); have n6_ := Aside0.mk ((by rw [hg]; exact Nat.ne_of_gt (blk_lt (g := gb132) (o := .cells #[.int .i64 a0_0, .int .i64 a0_1] 31 (0, 0)) (by (with_reducible repeat (first | refine blk_drewN ?_ _ | refine blk_drew ?_ | refine blk_alloc ?_ _)); exact BK132.out)) : gb133 ≠ gb132)); clear BK132; clear HB; have BK132 := n0_; have HB := n1_; have BK133 := n2_; have GW133 := n3_; have GE133 := n4_; have NB132_133 := n5_; have NB133_132 := n6_; clear n0_ n1_ n2_ n3_ n4_ n5_ n6_; clear hb hbox hg; have hnb7 := NB132_133.out; have hnc7 := NB133_132.out; have hcz8_0 : w6.cell? ⟨gb132, 0, none⟩ = some (.int .i64 a0_0) := (blk_cell BK132.out 0).trans rfl; have hcz8_1 : w6.cell? ⟨gb132, 1, none⟩ = some (.int .i64 a0_1) := (blk_cell BK132.out 1).trans rfl; have hfz8_0 := blk_frozen BK132.out 0; have hfz8_1 := blk_frozen BK132.out 1; have hcz9_0 : w6.cell? ⟨gb133, 0, none⟩ = some (.int .i64 a1_0) := (blk_cell BK133.out 0).trans rfl; have hcz9_1 : w6.cell? ⟨gb133, 1, none⟩ = some (.int .i64 a1_1) := (blk_cell BK133.out 1).trans rfl; have hfz9_0 := blk_frozen BK133.out 0; have hfz9_1 := blk_frozen BK133.out 1))
      go_ret
      exact ⟨by first | rfl | (simp [errW_none, errW_some] <;> rfl) | (simp [*, errW_none, errW_some] <;> rfl), by repeat (first | (with_reducible first | exact HB.out | apply below_alloc | apply pw_below_drewN | apply below_drew1 | refine below_set ?_ GE132.out | refine below_set ?_ GE133.out) | exact HB.out)⟩
    · rw [if_neg c4] at H
      have c4b0 : (a0_1 == a1_1) = false := beq_eq_false_iff_ne.mpr c4
      have c4b1 : (a0_1 != a1_1) = true := bne_iff_ne.mpr c4
      obtain rfl := Option.some.inj H
      go_enter Try.func40, Try.ntmps40
      go_wp2_with (first | ((with_reducible refine gate_dst (N := 2) rfl ?_); refine box_event ?hg (N := 2) ?hd (cs := #[.int .i64 a0_0, .int .i64 a0_1]) (t := 31) ?hr ?_; (case hd => rfl); (case hg => rfl); (case hr => first | (go_simp; done) | (go_simp; rfl)); intro gb132 hg w10 hbox hb; have n0_ := Aside0.mk (below_step (by repeat (first | (with_reducible first | exact HB.out | apply below_alloc | apply pw_below_drewN | apply below_drew1) | exact HB.out)) hb); have n1_ := Aside0.mk (hbox); have n2_ := Aside0.mk ((by rw [hg]; exact (below_size (by repeat (first | (with_reducible first | exact HB.out | apply below_alloc | apply pw_below_drewN | apply below_drew1) | exact HB.out))) : w.heap.size ≤ gb132)); have n3_ := Aside0.mk ((by rw [hg]; exact (below_size (by repeat (first | (with_reducible first | exact HB.out | apply below_alloc | apply pw_below_drewN | apply below_drew1) | exact HB.out))) : w.heap.size ≤ gb132)); clear HB; have HB := n0_; have BK132 := n1_; have GW132 := n2_; have GE132 := n3_; clear n0_ n1_ n2_ n3_; clear hb hbox hg) | ((with_reducible refine gate_dst (N := 3) rfl ?_); refine box_event ?hg (N := 3) ?hd (cs := #[.int .i64 a1_0, .int .i64 a1_1]) (t := 31) ?hr ?_; (case hd => rfl); (case hg => rfl); (case hr => first | (go_simp; done) | (go_simp; rfl)); intro gb133 hg w11 hbox hb; have n0_ := Aside0.mk (blk_below (g := gb132) (o := .cells #[.int .i64 a0_0, .int .i64 a0_1] 31 (0, 0)) (by (with_reducible repeat (first | refine blk_drewN ?_ _ | refine blk_drew ?_ | refine blk_alloc ?_ _)); exact BK132.out) hb); have n1_ := Aside0.mk (below_step (by repeat (first | (with_reducible first | exact HB.out | apply below_alloc | apply pw_below_drewN | apply below_drew1 | refine below_set ?_ GE132.out) | exact HB.out)) hb); have n2_ := Aside0.mk (hbox); have n3_ := Aside0.mk ((by rw [hg]; exact (below_size (by repeat (first | (with_reducible first | exact HB.out | apply below_alloc | apply pw_below_drewN | apply below_drew1 | refine below_set ?_ GE132.out) | exact HB.out))) : w.heap.size ≤ gb133)); have n4_ := Aside0.mk ((by rw [hg]; exact (below_size (by repeat (first | (with_reducible first | exact HB.out | apply below_alloc | apply pw_below_drewN | apply below_drew1 | refine below_set ?_ GE132.out) | exact HB.out))) : w.heap.size ≤ gb133)); have n5_ := Aside0.mk ((by rw [hg]; exact Nat.ne_of_lt (blk_lt (g := gb132) (o := .cells #[.int .i64 a0_0, .int .i64 a0_1] 31 (0, 0)) (by (with_reducible repeat (first | refine blk_drewN ?_ _ | refine blk_drew ?_ | refine blk_alloc ?_ _)); exact BK132.out)) : gb132 ≠ gb133)); have n6_ := Aside0.mk ((by rw [hg]; exact Nat.ne_of_gt (blk_lt (g := gb132) (o := .cells #[.int .i64 a0_0, .int .i64 a0_1] 31 (0, 0)) (by (with_reducible repeat (first | refine blk_drewN ?_ _ | refine blk_drew ?_ | refine blk_alloc ?_ _)); exact BK132.out)) : gb133 ≠ gb132)); clear BK132; clear HB; have BK132 := n0_; have HB := n1_; have BK133 := n2_; have GW133 := n3_; have GE133 := n4_; have NB132_133 := n5_; have NB133_132 := n6_; clear n0_ n1_ n2_ n3_ n4_ n5_ n6_; clear hb hbox hg; have hnb12 := NB132_133.out; have hnc12 := NB133_132.out; have hcz13_0 : w11.cell? ⟨gb132, 0, none⟩ = some (.int .i64 a0_0) := (blk_cell BK132.out 0).trans rfl; have hcz13_1 : w11.cell? ⟨gb132, 1, none⟩ = some (.int .i64 a0_1) := (blk_cell BK132.out 1).trans rfl; have hfz13_0 := blk_frozen BK132.out 0; have hfz13_1 := blk_frozen BK132.out 1; have hcz14_0 : w11.cell? ⟨gb133, 0, none⟩ = some (.int .i64 a1_0) := (blk_cell BK133.out 0).trans rfl; have hcz14_1 : w11.cell? ⟨gb133, 1, none⟩ = some (.int .i64 a1_1) := (blk_cell BK133.out 1).trans rfl; have hfz14_0 := blk_frozen BK133.out 0; have hfz14_1 := blk_frozen BK133.out 1))
      go_ret
      exact ⟨by first | rfl | (simp [errW_none, errW_some] <;> rfl) | (simp [*, errW_none, errW_some] <;> rfl), by repeat (first | (with_reducible first | exact HB.out | apply below_alloc | apply pw_below_drewN | apply below_drew1 | refine below_set ?_ GE132.out | refine below_set ?_ GE133.out) | exact HB.out)⟩
  · rw [if_neg c3] at H
    have c3b0 : (a0_0 == a1_0) = false := beq_eq_false_iff_ne.mpr c3
    have c3b1 : (a0_0 != a1_0) = true := bne_iff_ne.mpr c3
    obtain rfl := Option.some.inj H
    go_enter Try.func40, Try.ntmps40
    go_wp2_with (first | ((with_reducible refine gate_dst (N := 2) rfl ?_); refine box_event ?hg (N := 2) ?hd (cs := #[.int .i64 a0_0, .int .i64 a0_1]) (t := 31) ?hr ?_; (case hd => rfl); (case hg => rfl); (case hr => first | (go_simp; done) | (go_simp; rfl)); intro gb132 hg w15 hbox hb; have n0_ := Aside0.mk (below_step (by repeat (first | (with_reducible first | exact HB.out | apply below_alloc | apply pw_below_drewN | apply below_drew1) | exact HB.out)) hb); have n1_ := Aside0.mk (hbox); have n2_ := Aside0.mk ((by rw [hg]; exact (below_size (by repeat (first | (with_reducible first | exact HB.out | apply below_alloc | apply pw_below_drewN | apply below_drew1) | exact HB.out))) : w.heap.size ≤ gb132)); have n3_ := Aside0.mk ((by rw [hg]; exact (below_size (by repeat (first | (with_reducible first | exact HB.out | apply below_alloc | apply pw_below_drewN | apply below_drew1) | exact HB.out))) : w.heap.size ≤ gb132)); clear HB; have HB := n0_; have BK132 := n1_; have GW132 := n2_; have GE132 := n3_; clear n0_ n1_ n2_ n3_; clear hb hbox hg) | ((with_reducible refine gate_dst (N := 3) rfl ?_); refine box_event ?hg (N := 3) ?hd (cs := #[.int .i64 a1_0, .int .i64 a1_1]) (t := 31) ?hr ?_; (case hd => rfl); (case hg => rfl); (case hr => first | (go_simp; done) | (go_simp; rfl)); intro gb133 hg w16 hbox hb; have n0_ := Aside0.mk (blk_below (g := gb132) (o := .cells #[.int .i64 a0_0, .int .i64 a0_1] 31 (0, 0)) (by (with_reducible repeat (first | refine blk_drewN ?_ _ | refine blk_drew ?_ | refine blk_alloc ?_ _)); exact BK132.out) hb); have n1_ := Aside0.mk (below_step (by repeat (first | (with_reducible first | exact HB.out | apply below_alloc | apply pw_below_drewN | apply below_drew1 | refine below_set ?_ GE132.out) | exact HB.out)) hb); have n2_ := Aside0.mk (hbox); have n3_ := Aside0.mk ((by rw [hg]; exact (below_size (by repeat (first | (with_reducible first | exact HB.out | apply below_alloc | apply pw_below_drewN | apply below_drew1 | refine below_set ?_ GE132.out) | exact HB.out))) : w.heap.size ≤ gb133)); have n4_ := Aside0.mk ((by rw [hg]; exact (below_size (by repeat (first | (with_reducible first | exact HB.out | apply below_alloc | apply pw_below_drewN | apply below_drew1 | refine below_set ?_ GE132.out) | exact HB.out))) : w.heap.size ≤ gb133)); have n5_ := Aside0.mk ((by rw [hg]; exact Nat.ne_of_lt (blk_lt (g := gb132) (o := .cells #[.int .i64 a0_0, .int .i64 a0_1] 31 (0, 0)) (by (with_reducible repeat (first | refine blk_drewN ?_ _ | refine blk_drew ?_ | refine blk_alloc ?_ _)); exact BK132.out)) : gb132 ≠ gb133)); have n6_ := Aside0.mk ((by rw [hg]; exact Nat.ne_of_gt (blk_lt (g := gb132) (o := .cells #[.int .i64 a0_0, .int .i64 a0_1] 31 (0, 0)) (by (with_reducible repeat (first | refine blk_drewN ?_ _ | refine blk_drew ?_ | refine blk_alloc ?_ _)); exact BK132.out)) : gb133 ≠ gb132)); clear BK132; clear HB; have BK132 := n0_; have HB := n1_; have BK133 := n2_; have GW133 := n3_; have GE133 := n4_; have NB132_133 := n5_; have NB133_132 := n6_; clear n0_ n1_ n2_ n3_ n4_ n5_ n6_; clear hb hbox hg; have hnb17 := NB132_133.out; have hnc17 := NB133_132.out; have hcz18_0 : w16.cell? ⟨gb132, 0, none⟩ = some (.int .i64 a0_0) := (blk_cell BK132.out 0).trans rfl; have hcz18_1 : w16.cell? ⟨gb132, 1, none⟩ = some (.int .i64 a0_1) := (blk_cell BK132.out 1).trans rfl; have hfz18_0 := blk_frozen BK132.out 0; have hfz18_1 := blk_frozen BK132.out 1; have hcz19_0 : w16.cell? ⟨gb133, 0, none⟩ = some (.int .i64 a1_0) := (blk_cell BK133.out 0).trans rfl; have hcz19_1 : w16.cell? ⟨gb133, 1, none⟩ = some (.int .i64 a1_1) := (blk_cell BK133.out 1).trans rfl; have hfz19_0 := blk_frozen BK133.out 0; have hfz19_1 := blk_frozen BK133.out 1))
    go_ret
    exact ⟨by first | rfl | (simp [errW_none, errW_some] <;> rfl) | (simp [*, errW_none, errW_some] <;> rfl), by repeat (first | (with_reducible first | exact HB.out | apply below_alloc | apply pw_below_drewN | apply below_drew1 | refine below_set ?_ GE132.out | refine below_set ?_ GE133.out) | exact HB.out)⟩

end Go.Proofs.Ytnapimpnelkhcaa.PFnExactLotsOf
