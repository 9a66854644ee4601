/- compact.Parse. -/
import Derived.Test.YteflphhdafhapaaSet
import Derived.OwnWalkIn
import Derived.Maps.OwnIn
namespace Go.Proofs.Yteflphhdafhapaa.Rng
open Go.RowKit Go.Shelf Go.Proofs.YteflphhdafhapaaW.PrintWords Go.Proofs.YteflphhdafhapaaW.PrintMore
attribute [local go_sem] Oper.semAt_some

theorem load_int (g : Nat) (w : World) (v : Value) (h : w.cell? ⟨g, 0, none⟩ = some v) : (loadVar 3 ⟨g, 0, none⟩).run Try.prog w = .ok v w := by
  simp [loadVar, isAgg, h]
theorem load_err (g : Nat) (w : World) (v : Value) (h : w.cell? ⟨g, 0, none⟩ = some v) : (loadVar 26 ⟨g, 0, none⟩).run Try.prog w = .ok v w := by
  simp [loadVar, isAgg, h]
theorem load_sgs (g : Nat) (w : World) (v : Value) (h : w.cell? ⟨g, 0, none⟩ = some v) : (loadVar 22 ⟨g, 0, none⟩).run Try.prog w = .ok v w := by
  simp [loadVar, isAgg, h]
theorem results_c3 {P : Program} {fn : Func} {p q r : Tmp} {tp tq tr : TypeId} (h : fn.results = #[.cell p tp, .cell q tq, .cell r tr]) (tmps : Array Value) (w : World) (a b c : Addr) (va vb vc : Value)
    (hp : tmps.getD p undef = .pointer (some a)) (hq : tmps.getD q undef = .pointer (some b)) (hr : tmps.getD r undef = .pointer (some c))
    (lp : (loadVar tp a).run P w = .ok va w) (lq : (loadVar tq b).run P w = .ok vb w) (lr : (loadVar tr c).run P w = .ok vc w) : (results fn tmps).run P w = .ok (.tuple #[va, vb, vc]) w := by
  rw [Array.getD_eq_getD_getElem?] at hp hq hr
  simp only [results, h]
  simp [Sem.run_bind, hp, hq, hr, asAddr, lp, lq, lr]
theorem parse_res (tmps : Array Value) (w : World) (g2 g3 g4 : Nat) (v : Value) (r2 r3 : Int) (h2 : tmps.getD 2 undef = .pointer (some ⟨g2, 0, none⟩)) (h3 : tmps.getD 3 undef = .pointer (some ⟨g3, 0, none⟩)) (h4 : tmps.getD 4 undef = .pointer (some ⟨g4, 0, none⟩))
    (c2 : w.heap[g2]? = some (.cells #[v] 22 (0, 0))) (c3 : w.heap[g3]? = some (.cells #[.int .i64 r2] 26 (0, 0))) (c4 : w.heap[g4]? = some (.cells #[.int .i64 r3] 3 (0, 0))) :
    (results Try.f11 tmps).run Try.prog w = .ok (.tuple #[v, .int .i64 r2, .int .i64 r3]) w :=
  results_c3 rfl tmps w _ _ _ _ _ _ h2 h3 h4 (load_sgs _ _ _ (blk_cell c2)) (load_err _ _ _ (blk_cell c3)) (load_int _ _ _ (blk_cell c4))
theorem three_new (w : World) (a b c : Obj) : (((w.alloc a).alloc b).alloc c).heap[w.heap.size]? = some a ∧ (((w.alloc a).alloc b).alloc c).heap[w.heap.size + 1]? = some b ∧ (((w.alloc a).alloc b).alloc c).heap[w.heap.size + 2]? = some c := by
  refine ⟨?_, ?_, ?_⟩
  · rw [Below.heap_alloc _ _ _ (by simp; omega), Below.heap_alloc _ _ _ (by simp)]; exact World.alloc_heap_new w a
  · rw [Below.heap_alloc _ _ _ (by simp)]; have := World.alloc_heap_new (w.alloc a) b; rwa [World.size_alloc] at this
  · have := World.alloc_heap_new ((w.alloc a).alloc b) c; rwa [World.size_alloc, World.size_alloc] at this

set_option maxRecDepth 100000 in
theorem settings_any (A : Option Addr) (n c : Nat) (m : Int) (w : World) :
    Calls Try.prog 20 #[.slice A n c, .int .i64 m] w fun e w' => e = .returned (.func (.func 24) #[] #[.pointer (some ⟨w.heap.size, 0, none⟩), .pointer (some ⟨w.heap.size + 1, 0, none⟩)]) ∧ w' = (w.alloc (.cells #[.slice A n c] 25)).alloc (.cells #[.int .i64 m] 3) := by
  go_enter Try.func20, Try.ntmps20
  go_wp2
  go_ret
  exact ⟨rfl, by first | rfl | simp⟩

/-- The settings that come first. -/
def parsed (zs : List Int) : Nat → List Sg
  | 0 => []
  | k + 1 => parsed zs k ++ [sgAt zs (posK zs k)]
theorem parsed_length (zs : List Int) : ∀ k, (parsed zs k).length = k
  | 0 => rfl
  | k + 1 => by rw [parsed, List.length_append, parsed_length zs k]; rfl
theorem posK_ge (zs : List Int) : ∀ k, 4 + 7 * k ≤ posK zs k
  | 0 => Nat.le_refl _
  | k + 1 => by have := posK_ge zs k; rw [posK]; omega
def cntAt (zs : List Int) : Nat := (val (zs.take 4)).toNat
theorem R_fr {α : Type} {d : Kd α} {e base : Nat} {v : Value} {xs : List α} {M : Nat → Prop} {w W : World} (h : Kd.R d e w base (fun _ => True) v xs) (hf : Fr M w W) (hM : ∀ k, base ≤ k → ¬ M k) : Kd.R d e W base (fun _ => True) v xs :=
  Kd.R_mono (Kd.R_step (Kd.R_bound h) (fun k hk hlt => hf.block k hlt (hM k hk.2.1))) (fun _ _ => trivial)
theorem three_put {W : World} {b : Nat} {t2 t3 t4 : TypeId} {u2 u3 u4 : Value} (h2 : W.heap[b]? = some (.cells #[u2] t2 (0, 0))) (h3 : W.heap[b + 1]? = some (.cells #[u3] t3 (0, 0))) (h4 : W.heap[b + 2]? = some (.cells #[u4] t4 (0, 0))) (v2 v3 v4 : Value) :
    (((W.setCell ⟨b, 0, none⟩ v2).setCell ⟨b + 1, 0, none⟩ v3).setCell ⟨b + 2, 0, none⟩ v4).heap[b]? = some (.cells #[v2] t2 (0, 0)) ∧ (((W.setCell ⟨b, 0, none⟩ v2).setCell ⟨b + 1, 0, none⟩ v3).setCell ⟨b + 2, 0, none⟩ v4).heap[b + 1]? = some (.cells #[v3] t3 (0, 0)) ∧
    (((W.setCell ⟨b, 0, none⟩ v2).setCell ⟨b + 1, 0, none⟩ v3).setCell ⟨b + 2, 0, none⟩ v4).heap[b + 2]? = some (.cells #[v4] t4 (0, 0)) ∧ Fr (fun j => j = b ∨ j = b + 1 ∨ j = b + 2) W (((W.setCell ⟨b, 0, none⟩ v2).setCell ⟨b + 1, 0, none⟩ v3).setCell ⟨b + 2, 0, none⟩ v4) := by
  have f1 : Fr (fun j => j = b) W (W.setCell ⟨b, 0, none⟩ v2) := Fr.setCell _ _ _ (.inl rfl)
  have f2 : Fr (fun j => j = b + 1) (W.setCell ⟨b, 0, none⟩ v2) ((W.setCell ⟨b, 0, none⟩ v2).setCell ⟨b + 1, 0, none⟩ v3) := Fr.setCell _ _ _ (.inl rfl)
  have f3 : Fr (fun j => j = b + 2) ((W.setCell ⟨b, 0, none⟩ v2).setCell ⟨b + 1, 0, none⟩ v3) (((W.setCell ⟨b, 0, none⟩ v2).setCell ⟨b + 1, 0, none⟩ v3).setCell ⟨b + 2, 0, none⟩ v4) := Fr.setCell _ _ _ (.inl rfl)
  exact ⟨f3.blk (f2.blk (blk_put h2 v2) (by omega)) (by omega), f3.blk (blk_put (f1.blk h3 (by omega)) v3) (by omega), blk_put (f2.blk (f1.blk h4 (by omega)) (by omega)) v4,
    ((f1.mono (fun _ h => .inl h)).trans (f2.mono (fun _ h => .inr (.inl h)))).trans (f3.mono (fun _ h => .inr (.inr h)))⟩
/-- What lies in Parse's blocks when k settings have come. -/
def PI (w : World) (a s K : Nat) (zs : List Int) (k : Nat) (W : World) : Prop :=
  k ≤ K ∧ (∃ v, W.heap[a + 3]? = some (.cells #[v] 22 (0, 0)) ∧ Kd.R kS 45 W s (fun _ => True) v (parsed zs k)) ∧
  W.heap[a]? = some (.cells #[.slice none 0 0] 22 (0, 0)) ∧ W.heap[a + 1]? = some (.cells #[.int .i64 0] 26 (0, 0)) ∧ W.heap[a + 2]? = some (.cells #[.int .i64 0] 3 (0, 0)) ∧ Below a w W
def PX (w : World) (a K : Nat) (zs : List Int) (c : Code) (k : Nat) (W : World) : Prop :=
  c = .ret ∧ k = K ∧ W.heap[a]? = some (.cells #[.slice none 0 0] 22 (0, 0)) ∧ W.heap[a + 1]? = some (.cells #[.int .i64 230] 26 (0, 0)) ∧ W.heap[a + 2]? = some (.cells #[.int .i64 (posK zs K : Int)] 3 (0, 0)) ∧ Below a w W
theorem PI.fr {w : World} {a s K k : Nat} {zs : List Int} {A B : World} {M : Nat → Prop} (h : PI w a s K zs k A) (hw : a ≤ w.heap.size) (hf : Fr M A B) (h1 : ∀ j, j ≤ a + 3 → ¬ M j) (h2 : ∀ j, s ≤ j → ¬ M j) : PI w a s K zs k B := by
  obtain ⟨hk, ⟨v, hv, hR⟩, e2, e3, e4, hb⟩ := h
  exact ⟨hk, ⟨v, hf.blk hv (h1 _ (by omega)), R_fr hR hf h2⟩, hf.blk e2 (h1 _ (by omega)), hf.blk e3 (h1 _ (by omega)), hf.blk e4 (h1 _ (by omega)),
    hb.trans (hf.below (B := a) (fun j hj => ⟨by have := hb.size; omega, h1 j (by omega)⟩))⟩
theorem PX.fr {w : World} {a K k : Nat} {zs : List Int} {c : Code} {A B : World} {M : Nat → Prop} (h : PX w a K zs c k A) (hw : a ≤ w.heap.size) (hf : Fr M A B) (h1 : ∀ j, j ≤ a + 3 → ¬ M j) : PX w a K zs c k B := by
  obtain ⟨hk, hc, e2, e3, e4, hb⟩ := h
  exact ⟨hk, hc, hf.blk e2 (h1 _ (by omega)), hf.blk e3 (h1 _ (by omega)), hf.blk e4 (h1 _ (by omega)), hb.trans (hf.below (B := a) (fun j hj => ⟨by have := hb.size; omega, h1 j (by omega)⟩))⟩
/-- What Parse tells. -/
def PSaid (zs : List Int) (r1 : List Sg) (r2 r3 : Int) : Prop :=
  (262144 < zs.length ∧ r1 = [] ∧ r2 = 3 ∧ r3 = 0) ∨ (zs.length < 4 ∧ r1 = [] ∧ r2 = 230 ∧ r3 = 0) ∨
  (4 ≤ zs.length ∧ zs.length ≤ 262144 ∧ ∃ K, K ≤ cntAt zs ∧ (∀ k, k < K → okAt zs (posK zs k) = true) ∧
    (((K < cntAt zs ∧ okAt zs (posK zs K) = false ∨ K = cntAt zs ∧ posK zs K < zs.length) ∧ r1 = [] ∧ r2 = 230 ∧ r3 = posK zs K) ∨
     (K = cntAt zs ∧ ¬ posK zs K < zs.length ∧ r1 = parsed zs K ∧ r2 = 0 ∧ r3 = 0)))
theorem some_K (zs : List Int) : ∀ n, ∃ K, K ≤ n ∧ (∀ k, k < K → okAt zs (posK zs k) = true) ∧ (K = n ∨ (K < n ∧ okAt zs (posK zs K) = false))
  | 0 => ⟨0, Nat.le_refl _, fun k hk => by omega, .inl rfl⟩
  | n + 1 => by
    obtain ⟨K, h1, h2, h3⟩ := some_K zs n
    rcases h3 with rfl | ⟨h3, h4⟩
    · cases h : okAt zs (posK zs K) with
      | false => exact ⟨K, by omega, h2, .inr ⟨by omega, h⟩⟩
      | true => exact ⟨K + 1, Nat.le_refl _, fun k hk => by rcases Nat.lt_or_eq_of_le (Nat.le_of_lt_succ hk) with h | rfl; exact h2 k h; assumption, .inl rfl⟩
    · exact ⟨K, by omega, h2, .inr ⟨by omega, h4⟩⟩
theorem val4 {zs : List Int} (hB : Bytes zs) (h : 4 ≤ zs.length) : val (zs.take 4) = (cntAt zs : Int) ∧ cntAt zs < 4294967296 := by
  have hb := val_bound _ (hB.take_ 4)
  rw [show (zs.take 4).length = 4 by simp; omega, show (256 ^ 4 : Nat) = 4294967296 by decide] at hb
  unfold cntAt
  omega


theorem info_sg : (Try.prog.info? 45).map (fun i => (i.zero, i.size, i.bytes)) = some (some (.agg #[.int .u16 0, .int .u8 0, .slice none 0 0]), 3, 32) := by kernel_rfl
theorem in_append_kS {F : Fence} {nF : Nat} {ops : Array Oper} {o : Oper} {a : Act} {Q : Exit → Act → World → Prop} {Kc : Act → World → Prop} {w : World} (hw : Region.wanted o (yielded ops a.tmps) = true) (s x : Operand)
    (ho : o.op = .call { callee := .builtin .append, args := #[s, x], argTypes := #[22, 22] }) (base : Nat) (v : Value) (xs : List Sg) (p : Sg) (A2 : Option Addr) (m2 c2 : Nat) (ad : Addr)
    (hs : a.eval s = v) (hx : a.eval x = .slice (some ad) 1 1) (HR : Kd.R kS 45 w base (fun _ => True) v xs) (HP : Kd.R kB 5 w base (fun _ => True) (.slice A2 m2 c2) p.2)
    (hnews : ∀ j u, [Value.int .u16 p.1.1, .int .u8 p.1.2, .slice A2 m2 c2][j]? = some u → w.cell? (ad.add j) = some u) (h63 : xs.length + 1 ≤ 1000000) (hbase : base ≤ w.heap.size)
    (h : ∀ v' w', Kd.R kS 45 w' base (fun _ => True) v' (xs ++ [p]) → w.grownBy w' v.ownBlock → (∀ k, v.ownBlock = some k → base ≤ k) → Kc (a.put o.dst v') w') :
    if Region.wanted o (yielded ops a.tmps) = true then Oper.wpIn F nF Try.prog o a w Kc Q else (∀ f, o.about Try.prog w a.eval = some f → F.fn f) ∧ Kc (a.put o.dst undef) w := by
  rw [if_pos hw]
  obtain ⟨h0, inner, hown, hr⟩ := HR
  obtain ⟨i0, hi0, hz0, hz1, hz2⟩ := info_parts info_sg
  obtain ⟨v', w', hrun, hown', hg, _, hat⟩ := run_append_own_at (P := Try.prog) w base 22 o.type 45 i0 _ 3 32 Try.underlying22 hi0 hz0 hz1 hz2 rfl (by decide) v xs.length inner hown ad 1 1
    [Value.int .u16 p.1.1, .int .u8 p.1.2, .slice A2 m2 c2] rfl hnews (by simp [Value.oneCell']) (by unfold maxLen; omega) (by omega) hbase
  have HPb := Kd.R_bound HP
  have hR' := Kd.R_appended (d := kS) (e := 45) (base := base) (ok := fun _ => True) (W := w) (w1 := w') (v := v) (v1 := v') (xs := xs) (p := p) (inner := inner) (cs := [Value.int .u16 p.1.1, .int .u8 p.1.2, .slice A2 m2 c2]) h0 hr (okp := fun k => True ∧ base ≤ k ∧ k < w.heap.size ∧ ∃ q, q ∈ 5 :: kB.E ∧ ∃ cells, w.heap[k]? = some (.cells cells q (0, 0)))
    ⟨[.int .u16 p.1.1, .int .u8 p.1.2], [.slice A2 m2 c2], rfl, ⟨[.int .u16 p.1.1], [.int .u8 p.1.2], rfl, rfl, rfl⟩, ⟨.slice A2 m2 c2, rfl, HPb⟩⟩ (by
      rintro k ⟨-, -, -, q, hq, cells, hc⟩
      refine ⟨trivial, fun e => ?_⟩
      obtain ⟨cells', hc'⟩ := own_typed hown k e.symm
      rw [hc] at hc'
      have hq5 : q = 5 := by simpa [show kB.E = [] from rfl] using hq
      injection hc' with hc'
      injection hc' with _ ht _
      rw [hq5] at ht
      exact absurd ht (by decide)) (fun _ _ => trivial) hown' hg (by
      rcases hat with hat | hat
      · exact .inl hat
      · exact .inr ⟨_, hat, Nat.le_refl _⟩)
  unfold Oper.wpIn
  refine ⟨by simp [Oper.about, ho, resolve, Target.leads, Sem.run_pure], ?_⟩
  rw [Oper.semAt_plain F _ _ (by rw [ho]; intro c hc'; cases hc')]
  simp [execOp, ho, resolve, invoke, builtin, hs, hx, hrun, Result.andThen]
  exact h v' w' hR' hg (fun k hk => own_base hown k hk)

set_option maxRecDepth 100000 in
set_option maxHeartbeats 4000000 in
theorem parse_any (A : Option Addr) (c : Nat) (zs : List Int) (w : World) (hz : kB.C w A zs.length zs) (hc : zs.length ≤ c) (hB : Bytes zs) :
    Calls Try.prog 11 #[.slice A zs.length c] w fun e w' => ∃ v0 r1 r2 r3, e = .returned (.tuple #[v0, .int .i64 r2, .int .i64 r3]) ∧ Kd.R kS 45 w' w.heap.size (fun _ => True) v0 r1 ∧ Below w.heap.size w w' ∧ PSaid zs r1 r2 r3 := by
  have HZ := Aside0.mk hz
  have HBY := Aside0.mk hB
  obtain ⟨len, hlen⟩ : ∃ len, zs.length = len := ⟨_, rfl⟩
  have HLEN := Aside0.mk hlen
  have HZL : Aside0 (kB.C w A len zs) := ⟨by rw [← hlen]; exact hz⟩
  rw [hlen] at hc ⊢
  clear hz hB hlen
  obtain ⟨K, hK1, hK2, hK3⟩ := some_K zs (cntAt zs)
  have HK2 := Aside0.mk hK2
  have HK3 := Aside0.mk hK3
  clear hK2 hK3
  refine (callsIn_wide (n := 3)).1 ?_
  refine callsIn_of_wp_marks Try.func11 rfl trivial ?_ rfl
  simp only [Try.ntmps11, List.size_toArray, List.length_cons, List.length_nil, Nat.reduceAdd, Nat.reduceSub, Array.replicate_succ, Array.replicate_zero, List.push_toArray, List.append_toArray, List.nil_append, List.cons_append]
  by_cases hlong : 262144 < len
  · gi_wp2
    obtain ⟨n2, n3, n4⟩ := three_new w (.cells #[.slice none 0 0] 22) (.cells #[.int .i64 3] 26) (.cells #[.int .i64 0] 3)
    exact ⟨_, parse_res _ _ _ _ _ _ _ _ rfl rfl rfl n2 n3 n4, _, [], 3, 0, rfl, Kd.R_nil _ _ _ _ _, below_alloc (below_alloc (below_alloc (Below.refl _ _) _) _) _, .inl ⟨by rw [HLEN.out]; exact hlong, rfl, rfl, rfl⟩⟩
  · by_cases hshort : len < 4
    · gi_wp2
      obtain ⟨n2, n3, n4⟩ := three_new w (.cells #[.slice none 0 0] 22) (.cells #[.int .i64 230] 26) (.cells #[.int .i64 0] 3)
      exact ⟨_, parse_res _ _ _ _ _ _ _ _ rfl rfl rfl n2 n3 n4, _, [], 230, 0, rfl, Kd.R_nil _ _ _ _ _, below_alloc (below_alloc (below_alloc (Below.refl _ _) _) _) _, .inr (.inl ⟨by rw [HLEN.out]; exact hshort, rfl, rfl, rfl⟩)⟩
    · have hcut4 : ∀ X : World, (Instr.slice 25 (.slice A len c) none (some (.int .i64 4)) none).run Try.prog X = .ok (.slice A 4 c) X := fun X => run_cut_hi A len c 4 (by omega) (by omega) X
      obtain ⟨hv4, hn32⟩ := val4 HBY.out (by rw [HLEN.out]; omega)
      obtain ⟨n, hn⟩ : ∃ n, cntAt zs = n := ⟨_, rfl⟩
      rw [hn] at hv4 hn32 hK1 HK3
      have HN := Aside0.mk hn
      have hl4 : (zs.take 4).length = 4 := by have := HLEN.out; simp; omega
      have HC4 : Aside0 (kB.C w A (zs.take 4).length (zs.take 4)) := ⟨Rd_C ⟨by omega, fun _ => by
        obtain ⟨ad, e, hcc⟩ := (C_Rd HZ.out).2 (by rw [HLEN.out]; omega)
        exact ⟨ad, e, fun j hj => by rw [hcc j (by rw [HLEN.out]; omega), List.getElem?_take]; simp [show j < 4 by omega]⟩⟩⟩
      clear hn
      gi_wp2_with (refine ⟨trivial, ?_⟩; gi_at_call 21; refine (callsIn_wide.2 (value_len A 4 c _ _ (Rd_C ((C_Rd HC4.out).fr (M := fun _ => False) ((((Fr.alloc _ _ _).trans (Fr.alloc _ _ _)).trans (Fr.alloc _ _ _)).trans (Fr.alloc _ _ _)) (fun _ _ _ => id))) (HBY.out.take_ 4) (by omega) hl4)).mono ?_; rintro e w1 ⟨rfl, hb1⟩; rw [hv4]; have HB1 := Aside0.mk hb1; clear hb1)
      gi_wp2_with (refine ⟨trivial, ?_⟩; gi_at_call 20; refine (callsIn_wide.2 (settings_any A len c (n : Int) w1)).mono ?_; rintro e w' ⟨rfl, rfl⟩)
      obtain ⟨W0, hW0⟩ : ∃ W0, (w1.alloc (.cells #[.slice A len c] 25)).alloc (.cells #[.int .i64 (n : Int)] 3) = W0 := ⟨_, rfl⟩
      have hs1 : w.heap.size + 4 ≤ w1.heap.size := by have := HB1.out.size; simpa using this
      have hs0 : W0.heap.size = w1.heap.size + 2 := by rw [← hW0]; simp
      have hf10 : Fr (fun _ => False) w1 W0 := by rw [← hW0]; exact (Fr.alloc _ _ _).trans (Fr.alloc _ _ _)
      have hbb : W0.heap[w1.heap.size]? = some (.cells #[.slice A len c] 25 (0, 0)) := by rw [← hW0, Below.heap_alloc _ _ _ (by simp)]; exact World.alloc_heap_new w1 _
      have hnn : W0.heap[w1.heap.size + 1]? = some (.cells #[.int .i64 (n : Int)] 3 (0, 0)) := by
        rw [← hW0]; have := World.alloc_heap_new (w1.alloc (.cells #[.slice A len c] 25)) (.cells #[.int .i64 (n : Int)] 3); rwa [World.size_alloc] at this
      have hPI : PI w w.heap.size (W0.heap.size + 3) K zs 0 W0 := by
        obtain ⟨e2, e3, e4⟩ := three_new w (.cells #[.slice none 0 0] 22) (.cells #[.int .i64 0] 26) (.cells #[.int .i64 0] 3)
        obtain ⟨w3, hw3⟩ : ∃ w3, ((w.alloc (.cells #[.slice none 0 0] 22)).alloc (.cells #[.int .i64 0] 26)).alloc (.cells #[.int .i64 0] 3) = w3 := ⟨_, rfl⟩
        have hs3 : w3.heap.size = w.heap.size + 3 := by rw [← hw3]; simp
        have hb3 : Below w.heap.size w w3 := by rw [← hw3]; exact below_alloc (below_alloc (below_alloc (Below.refl _ _) _) _) _
        have hB1 := HB1.out
        rw [hw3] at e2 e3 e4 hB1
        have e5 := World.alloc_heap_new w3 (.cells #[.slice none 0 0] 22)
        rw [hs3] at e5
        have hfr : Fr (fun _ => False) (w3.alloc (.cells #[.slice none 0 0] 22)) W0 := (Fr.of_below hB1).trans hf10
        have hfr3 : Fr (fun _ => False) w3 W0 := (Fr.alloc _ _ _).trans hfr
        exact ⟨Nat.zero_le _, ⟨_, hfr.blk e5 id, Kd.R_nil _ _ _ _ _⟩, hfr3.blk e2 id, hfr3.blk e3 id, hfr3.blk e4 id, hb3.trans (hfr3.below (B := w.heap.size) (fun j hj => ⟨by omega, id⟩))⟩
      have hCW : kB.C W0 A len zs := Fr.C HLEN.out HZL.out (Fr.of_below (M := fun _ => False) (hPI.2.2.2.2.2)) (fun _ _ _ => id)
      rw [hW0]
      obtain ⟨bad, hbad⟩ : ∃ bad : Bool, (K = n ∧ bad = decide (posK zs K < zs.length)) ∨ (K < n ∧ okAt zs (posK zs K) = false ∧ bad = true) := by
        rcases HK3.out with h | ⟨h, h'⟩
        · exact ⟨_, .inl ⟨h, rfl⟩⟩
        · exact ⟨true, .inr ⟨h, h', rfl⟩⟩
      have HBAD := Aside0.mk hbad
      have HPI := Aside0.mk hPI
      have HCW := Aside0.mk hCW
      have HBB := Aside0.mk hbb
      have HNN := Aside0.mk hnn
      clear hbad hPI hCW hbb hnn hf10 hW0 HB1
      refine wp_range (gf := 24) (lb := #[.pointer (some ⟨w1.heap.size, 0, none⟩), .pointer (some ⟨w1.heap.size + 1, 0, none⟩)]) rfl (enters_of Try.func24 (by kernel_rfl) rfl) (K + if bad then 1 else 0) (setV zs K (W0.heap.size + 2 + 1))
        (fun j => j ≤ w.heap.size + 3 ∧ w.heap.size ≤ j ∨ W0.heap.size + 2 < j) (fun j => j = W0.heap.size + 2) ⟨by omega, by omega⟩ ⟨by omega, by omega⟩ ?_ ?_ (PI w w.heap.size (W0.heap.size + 3) K zs) (PX w w.heap.size K zs) ?_ ?_ HPI.out ?_ ?_ ?_
      · rintro k x W (⟨_, g, v, rfl, _⟩ | ⟨_, rfl⟩) <;> rfl
      · intro o
        have hfo : Fr (fun _ => False) W0 ((W0.alloc (.deferred (some []))).alloc o) := (Fr.alloc _ _ _).trans (Fr.alloc _ _ _)
        have hso : ((W0.alloc (.deferred (some []))).alloc o).heap.size = W0.heap.size + 2 := by simp
        have hsq := set_seq w1.heap.size (w1.heap.size + 1) n c K bad A zs (fun j => (j ≤ w.heap.size + 3 ∧ w.heap.size ≤ j ∨ W0.heap.size + 2 < j) ∨ j = W0.heap.size ∨ j = W0.heap.size + 1) ((W0.alloc (.deferred (some []))).alloc o)
          (by rw [HLEN.out]; exact hfo.cell (blk_cell HBB.out) id) (hfo.cell (blk_cell HNN.out) id) (by rw [HLEN.out]; exact Fr.C HLEN.out HCW.out hfo (fun _ _ _ => id)) (by rw [HLEN.out]; exact hc) HBY.out (by rw [HLEN.out]; omega) (by rw [HLEN.out]; omega)
          (by omega) (by rw [hso]; omega) (fun ad e h => by have := (C_Rd HZ.out).off ad e h; omega) HK2.out HBAD.out hn32
        rw [hso] at hsq
        exact hsq
      · intro k X Y h hf
        exact h.fr (Nat.le_refl _) hf (fun j hj => by omega) (fun j hj => by omega)
      · intro cd k X Y h hf
        exact h.fr (Nat.le_refl _) hf (fun j hj => by omega)
      · intro l k args W hk hV hsz hI
        obtain ⟨hkK, ⟨vo, hvo, hRo⟩, e2, e3, e4, hbw⟩ := hI
        have HVO := Aside0.mk hvo
        have HRO := Aside0.mk hRo
        have HE2 := Aside0.mk e2
        have HE3 := Aside0.mk e3
        have HE4 := Aside0.mk e4
        have HBW := Aside0.mk hbw
        clear hvo hRo e2 e3 e4 hbw
        rcases hV with ⟨hlt, g, v, rfl, hg, hgc, hRv⟩ | ⟨rfl, rfl⟩
        · obtain ⟨A2, c2, rfl, -, -⟩ := Kd.R_reads hRv
          obtain ⟨m2, hm2⟩ : ∃ m2, (sgAt zs (posK zs k)).2.length = m2 := ⟨_, rfl⟩
          rw [hm2] at hgc hRv
          obtain ⟨sg, hsg⟩ : ∃ sg, sgAt zs (posK zs k) = sg := ⟨_, rfl⟩
          rw [hsg] at hgc hRv
          obtain ⟨q, hq⟩ : ∃ q, posK zs (k + 1) = q := ⟨_, rfl⟩
          rw [hq]
          have HSG := Aside0.mk hsg
          have HGC := Aside0.mk hgc
          have HRV := Aside0.mk hRv
          clear hsg hm2 hgc hRv hq
          gi_wp2
          refine ⟨Fr.refl _ _, ?_⟩
          intro W2 hf2
          have hgc2 := hf2.blk HGC.out (by omega)
          have hvo2 := hf2.blk HVO.out (by omega)
          have z0 : W2.cell? ⟨g, 0, none⟩ = some (.int .u16 sg.1.1) := by simp [World.cell?, hgc2]
          have z1 : W2.cell? ⟨g, 1, none⟩ = some (.int .u8 sg.1.2) := by simp [World.cell?, hgc2]
          have z2 : W2.cell? ⟨g, 2, none⟩ = some (.slice A2 m2 c2) := by simp [World.cell?, hgc2]
          have hvc : W2.cell? ⟨w.heap.size + 1 + 1 + 1, 0, none⟩ = some vo := blk_cell hvo2
          have hvf : W2.frozen? ⟨w.heap.size + 1 + 1 + 1, 0, none⟩ = false := blk_free hvo2
          have hva : (W2.alloc (.cells #[.int .u16 sg.1.1, .int .u8 sg.1.2, .slice A2 m2 c2] 45)).cell? ⟨w.heap.size + 1 + 1 + 1, 0, none⟩ = some vo := blk_cell ((Below.heap_alloc W2 _ _ (Array.getElem?_eq_some_iff.1 hvo2).1).trans hvo2)
          have HF2 := Aside0.mk hf2
          have HR2 := Aside0.mk (R_fr HRO.out hf2 (fun j hj => by omega))
          have HV2 := Aside0.mk (R_fr HRV.out hf2 (fun j hj => by omega))
          have HVO2 := Aside0.mk hvo2
          clear hf2 hgc2 hvo2
          gi_wp2
          have hlen1 : (parsed zs k).length + 1 ≤ 1000000 := by
            have h1 := posK_ge zs k
            have h2 := posK_le HK2.out (by rw [HLEN.out]; omega) k hkK
            rw [HLEN.out] at h2
            rw [parsed_length]; omega
          have hba : Below W2.heap.size W2 (W2.alloc (.cells #[.int .u16 sg.1.1, .int .u8 sg.1.2, .slice A2 m2 c2] 45)).drew := below_drew (below_alloc (Below.refl _ _) _)
          have hna : (W2.alloc (.cells #[.int .u16 sg.1.1, .int .u8 sg.1.2, .slice A2 m2 c2] 45)).drew.heap[W2.heap.size]? = some (.cells #[.int .u16 sg.1.1, .int .u8 sg.1.2, .slice A2 m2 c2] 45 (0, 0)) := World.alloc_heap_new W2 _
          have hvb : (W2.alloc (.cells #[.int .u16 sg.1.1, .int .u8 sg.1.2, .slice A2 m2 c2] 45)).drew.heap[w.heap.size + 3]? = some (.cells #[vo] 22 (0, 0)) := (Below.heap_alloc W2 _ _ (Array.getElem?_eq_some_iff.1 HVO2.out).1).trans HVO2.out
          have HRA := Aside0.mk (Kd.R_below HR2.out hba)
          have HVA := Aside0.mk (Kd.R_below HV2.out hba)
          have HFA : Aside0 (Fr (fun _ => False) W2 (W2.alloc (.cells #[.int .u16 sg.1.1, .int .u8 sg.1.2, .slice A2 m2 c2] 45)).drew) := ⟨(Fr.alloc _ _ _).trans (Fr.drew _ _)⟩
          have hnews : Aside0 (∀ (j : Nat) u, [Value.int .u16 sg.1.1, .int .u8 sg.1.2, .slice A2 m2 c2][j]? = some u → (W2.alloc (.cells #[.int .u16 sg.1.1, .int .u8 sg.1.2, .slice A2 m2 c2] 45)).drew.cell? ((⟨W2.heap.size, 0, none⟩ : Addr).add j) = some u) := ⟨by
            intro j u hj
            rw [show (⟨W2.heap.size, 0, none⟩ : Addr).add j = ⟨W2.heap.size, j, none⟩ from add_plain _ _]
            simp only [World.cell?, hna]
            simpa using hj⟩
          have HVB := Aside0.mk hvb
          have hbase : W0.heap.size + 3 ≤ (W2.alloc (.cells #[.int .u16 sg.1.1, .int .u8 sg.1.2, .slice A2 m2 c2] 45)).drew.heap.size := by
            have h1 := (Array.getElem?_eq_some_iff.1 HGC.out).1
            have h2 := HF2.out.size
            have h3 := hba.size
            omega
          clear hba hna hvb
          refine wpIn_region_any (by kernel_rfl) ?_
          change wpAnyIn _ _ _ _ _ _ _ _ _ (World.drew _)
          (refine wpAnyIn_ready (rs := [0, 1]) (by kernel_rfl) (by simp) ?_; refine AllReadyIn.cons rfl (fun K hK => ?_) (AllReadyIn.cons rfl (fun K hK => ?_) AllReadyIn.nil) <;> (go_simp; refine hK _ _ ?_; clear hK))
          rotate_left
          (refine wpAnyIn_ready (rs := [0, 2]) (by kernel_rfl) (by simp) ?_; refine AllReadyIn.cons rfl (fun K hK => ?_) (AllReadyIn.cons rfl (fun K hK => ?_) AllReadyIn.nil) <;> (go_simp; refine hK _ _ ?_; clear hK))
          rotate_left
          (refine wpAnyIn_ready (rs := [0, 3]) (by kernel_rfl) (by simp) ?_; refine AllReadyIn.cons rfl (fun K hK => ?_) (AllReadyIn.cons rfl (fun K hK => ?_) AllReadyIn.nil) <;> (go_simp; refine hK _ _ ?_; clear hK))
          rotate_left
          (refine wpAnyIn_ready (rs := [0, 4]) (by kernel_rfl) (by simp) ?_; refine AllReadyIn.cons rfl (fun K hK => ?_) (AllReadyIn.cons rfl (fun K hK => ?_) AllReadyIn.nil) <;> (go_simp; refine hK _ _ ?_; clear hK))
          (refine wpAnyIn_ready (rs := [4]) (by kernel_rfl) (by simp) ?_; refine AllReadyIn.cons rfl (fun K hK => ?_) AllReadyIn.nil; go_simp; refine hK _ _ ?_; clear hK)
          rotate_left
          (refine wpAnyIn_ready (rs := [0]) (by kernel_rfl) (by simp) ?_; refine AllReadyIn.cons rfl (fun K hK => ?_) AllReadyIn.nil; go_simp; refine hK _ _ ?_; clear hK)
          rotate_left
          (refine wpAnyIn_ready (rs := [1]) (by kernel_rfl) (by simp) ?_; refine AllReadyIn.cons rfl (fun K hK => ?_) AllReadyIn.nil; go_simp; refine hK _ _ ?_; clear hK)
          (refine wpAnyIn_ready (rs := [2]) (by kernel_rfl) (by simp) ?_; refine AllReadyIn.cons rfl (fun K hK => ?_) AllReadyIn.nil; go_simp; refine hK _ _ ?_; clear hK)
          (refine wpAnyIn_ready (rs := [3]) (by kernel_rfl) (by simp) ?_; refine AllReadyIn.cons rfl (fun K hK => ?_) AllReadyIn.nil; go_simp; refine hK _ _ ?_; clear hK)
          (refine wpAnyIn_ready (rs := [4]) (by kernel_rfl) (by simp) ?_; refine AllReadyIn.cons rfl (fun K hK => ?_) AllReadyIn.nil; go_simp; refine hK _ _ ?_; clear hK)
          rotate_left
          (refine wpAnyIn_ready (rs := [2]) (by kernel_rfl) (by simp) ?_; refine AllReadyIn.cons rfl (fun K hK => ?_) AllReadyIn.nil; go_simp; refine hK _ _ ?_; clear hK)
          (refine wpAnyIn_ready (rs := [3]) (by kernel_rfl) (by simp) ?_; refine AllReadyIn.cons rfl (fun K hK => ?_) AllReadyIn.nil; go_simp; refine hK _ _ ?_; clear hK)
          (refine wpAnyIn_ready (rs := [4]) (by kernel_rfl) (by simp) ?_; refine AllReadyIn.cons rfl (fun K hK => ?_) AllReadyIn.nil; go_simp; refine hK _ _ ?_; clear hK)
          rotate_left
          (refine wpAnyIn_ready (rs := [3]) (by kernel_rfl) (by simp) ?_; refine AllReadyIn.cons rfl (fun K hK => ?_) AllReadyIn.nil; go_simp; refine hK _ _ ?_; clear hK)
          (refine wpAnyIn_ready (rs := [4]) (by kernel_rfl) (by simp) ?_; refine AllReadyIn.cons rfl (fun K hK => ?_) AllReadyIn.nil; go_simp; refine hK _ _ ?_; clear hK)
          all_goals
            refine wpAnyIn_ready (rs := [5]) (by kernel_rfl) (by simp) ?_
            refine AllReadyIn.cons rfl (fun K hK => ?_) AllReadyIn.nil
            refine in_append_kS rfl (.tmp 26) (.tmp 30) rfl (W0.heap.size + 3) vo (parsed zs k) sg A2 m2 c2 ⟨W2.heap.size, 0, none⟩ rfl rfl HRA.out HVA.out hnews.out hlen1 hbase ?_
            intro v' w' hR' hg' hown'
            refine hK _ _ ?_
            clear hK
            obtain ⟨D3, d3, hv3', -, -⟩ := Kd.R_reads hR'
            obtain ⟨m3, hm3⟩ : ∃ m3, (parsed zs k ++ [sg]).length = m3 := ⟨_, rfl⟩
            rw [hm3] at hv3'
            subst hv3'
            clear hm3
            have hbk : Fr (fun j => W0.heap.size + 3 ≤ j) (W2.alloc (.cells #[.int .u16 sg.1.1, .int .u8 sg.1.2, .slice A2 m2 c2] 45)).drew w' := Fr.of_grownBy hg' (fun j hj => .inl (hown' j hj))
            have hv3 := hbk.blk HVB.out (by omega)
            have hv3c : w'.cell? ⟨w.heap.size + 1 + 1 + 1, 0, none⟩ = some vo := blk_cell hv3
            have hv3f : w'.frozen? ⟨w.heap.size + 1 + 1 + 1, 0, none⟩ = false := blk_free hv3
            have HV3 := Aside0.mk hv3
            have HBK := Aside0.mk hbk
            have HR3 := Aside0.mk hR'
            clear hv3 hbk hR' hg' hown'
            refine wpAnyIn_ready (rs := [6]) (by kernel_rfl) (by simp) ?_
            refine AllReadyIn.cons rfl (fun K hK => ?_) AllReadyIn.nil
            go_simp
            refine hK _ _ ?_
            clear hK
            refine wpAnyIn_done (by kernel_rfl) ?_ _
            have hsc : Fr (fun j => j = w.heap.size + 3) w' (w'.setCell ⟨w.heap.size + 1 + 1 + 1, 0, none⟩ (.slice D3 m3 d3)) := Fr.setCell _ _ _ (.inl rfl)
            have hall : Fr (fun j => j = w.heap.size + 3 ∨ W0.heap.size + 3 ≤ j) W2 (w'.setCell ⟨w.heap.size + 1 + 1 + 1, 0, none⟩ (.slice D3 m3 d3)) := ((HFA.out.mono (fun _ => False.elim)).trans (HBK.out.mono (fun _ h => .inr h))).trans (hsc.mono (fun _ h => .inl h))
            have hW2 := HF2.out
            refine ⟨hall.mono (fun j hj => by omega), by omega, ⟨_, blk_put HV3.out _, ?_⟩, ?_, ?_, ?_, ?_⟩
            · have h := R_fr HR3.out hsc (fun j hj => by omega)
              rw [show parsed zs (k + 1) = parsed zs k ++ [sg] by rw [parsed, HSG.out]]
              exact h
            · exact hall.blk (hW2.blk HE2.out (by omega)) (by omega)
            · exact hall.blk (hW2.blk HE3.out (by omega)) (by omega)
            · exact hall.blk (hW2.blk HE4.out (by omega)) (by omega)
            · have hs := HBW.out.size
              have hs2 := hW2.size
              exact (HBW.out.trans (hW2.below (B := w.heap.size) (fun j hj => ⟨by omega, by omega⟩))).trans (hall.below (B := w.heap.size) (fun j hj => ⟨by omega, by omega⟩))
        · gi_wp2
          refine ⟨Fr.refl _ _, ?_⟩
          intro W2 hf2
          have f2 := hf2.blk HE2.out (by omega)
          have f3 := hf2.blk HE3.out (by omega)
          have f4 := hf2.blk HE4.out (by omega)
          have hb2 := HBW.out.size
          have c2 := blk_cell f2
          have d2 := blk_free f2
          have c3 := blk_cell f3
          have d3 := blk_free f3
          have c4 : W2.cell? ⟨w.heap.size + 1 + 1, 0, none⟩ = some (.int .i64 0) := blk_cell f4
          have d4 : W2.frozen? ⟨w.heap.size + 1 + 1, 0, none⟩ = false := blk_free f4
          obtain ⟨q, hq⟩ : ∃ q, posK zs k = q := ⟨_, rfl⟩
          rw [hq]
          have HQ := Aside0.mk hq
          have HF2 := Aside0.mk hf2
          have F2 := Aside0.mk f2
          have F3 := Aside0.mk f3
          have F4 := Aside0.mk f4
          clear hq hf2 f2 f3 f4 hb2
          gi_wp2
          obtain ⟨p2, p3, p4, pf⟩ := three_put F2.out F3.out F4.out (.slice none 0 0) (.int .i64 230) (.int .i64 (q : Int))
          have hW2 := HF2.out
          have hs := HBW.out.size
          have hs2 := hW2.size
          exact ⟨pf.mono (fun j hj => by omega), rfl, rfl, p2, p3, by rw [HQ.out]; exact p4, (HBW.out.trans (hW2.below (B := w.heap.size) (fun j hj => ⟨by omega, by omega⟩))).trans (pf.below (B := w.heap.size) (fun j hj => ⟨by omega, by omega⟩))⟩
      · intro W hsz hI hK
        obtain ⟨hkK, ⟨vo, hvo, hRo⟩, e2, e3, e4, hbw⟩ := hI
        have hbf : bad = false := by
          cases bad with
          | false => rfl
          | true => simp at hkK; omega
        subst hbf
        have hKn : K = n ∧ ¬ posK zs K < zs.length := by
          rcases HBAD.out with ⟨h1, h2⟩ | ⟨_, _, h⟩
          · exact ⟨h1, by simpa using h2.symm⟩
          · exact absurd h (by decide)
        obtain ⟨A3, m3, hv3, -, -⟩ := Kd.R_reads hRo
        have hvc : W.cell? ⟨w.heap.size + 1 + 1 + 1, 0, none⟩ = some vo := blk_cell hvo
        have c2 := blk_cell e2
        have d2 := blk_free e2
        have c3 := blk_cell e3
        have d3 := blk_free e3
        have c4 : W.cell? ⟨w.heap.size + 1 + 1, 0, none⟩ = some (.int .i64 0) := blk_cell e4
        have d4 : W.frozen? ⟨w.heap.size + 1 + 1, 0, none⟩ = false := blk_free e4
        have HK := Aside0.mk hK
        have HBW := Aside0.mk hbw
        have HRO := Aside0.mk hRo
        have E2 := Aside0.mk e2
        have E3 := Aside0.mk e3
        have E4 := Aside0.mk e4
        have HKN := Aside0.mk hKn
        clear hK hbw hRo e2 e3 e4 hKn hvo
        subst hv3
        gi_wp2
        obtain ⟨p2, p3, p4, pf⟩ := three_put E2.out E3.out E4.out (.slice A3 (parsed zs K).length m3) (.int .i64 0) (.int .i64 0)
        have hpo : Fr (fun j => j = W0.heap.size) (((W.setCell ⟨w.heap.size, 0, none⟩ (.slice A3 (parsed zs K).length m3)).setCell ⟨w.heap.size + 1, 0, none⟩ (.int .i64 0)).setCell ⟨w.heap.size + 2, 0, none⟩ (.int .i64 0)) ((((W.setCell ⟨w.heap.size, 0, none⟩ (.slice A3 (parsed zs K).length m3)).setCell ⟨w.heap.size + 1, 0, none⟩ (.int .i64 0)).setCell ⟨w.heap.size + 2, 0, none⟩ (.int .i64 0)).putObj W0.heap.size (.deferred none)) := Fr.putObj _ _ _ (.inl rfl)
        have hs := HBW.out.size
        have hs2 := pf.size
        refine leave_one rfl (pf.blk HK.out (by omega)) (parse_res _ _ _ _ _ _ _ _ rfl rfl rfl (hpo.blk p2 (by omega)) (hpo.blk p3 (by omega)) (hpo.blk p4 (by omega))) ?_
        refine ⟨_, parsed zs K, 0, 0, rfl, ?_, ?_, .inr (.inr ⟨by rw [HLEN.out]; omega, by rw [HLEN.out]; omega, K, by rw [HN.out]; exact hK1, HK2.out, .inr ⟨by rw [HN.out]; exact HKN.out.1, HKN.out.2, rfl, rfl, rfl⟩⟩)⟩
        · exact Kd.R_lower (R_fr (R_fr HRO.out pf (fun j hj => by omega)) hpo (fun j hj => by omega)) (by omega)
        · exact (HBW.out.trans (pf.below (B := w.heap.size) (fun j hj => ⟨by omega, by omega⟩))).trans (hpo.below (B := w.heap.size) (fun j hj => ⟨by omega, by omega⟩))
      · intro cd k W hsz hk hX hK
        obtain ⟨rfl, rfl, e2, e3, e4, hbw⟩ := hX
        gi_wp2
        refine leave_one rfl hK (parse_res _ _ _ _ _ _ _ _ rfl rfl rfl ((Fr.putObj (M := fun j => j = W0.heap.size) W _ _ (.inl rfl)).blk e2 (by omega)) ((Fr.putObj (M := fun j => j = W0.heap.size) W _ _ (.inl rfl)).blk e3 (by omega)) ((Fr.putObj (M := fun j => j = W0.heap.size) W _ _ (.inl rfl)).blk e4 (by omega))) ?_
        refine ⟨_, [], 230, _, rfl, Kd.R_nil _ _ _ _ _, hbw.trans ((Fr.putObj (M := fun j => j = W0.heap.size) W _ _ (.inl rfl)).below (B := w.heap.size) (fun j hj => ⟨by have := hbw.size; omega, by omega⟩)), .inr (.inr ⟨by rw [HLEN.out]; omega, by rw [HLEN.out]; omega, k, by rw [HN.out]; exact hK1, HK2.out, .inl ⟨?_, rfl, rfl, rfl⟩⟩)⟩
        rw [HN.out]
        rcases HBAD.out with ⟨h1, h2⟩ | ⟨h1, h2, _⟩
        · refine .inr ⟨h1, ?_⟩
          have : bad = true := by
            cases bad with
            | true => rfl
            | false => simp at hk
          rw [this] at h2
          simpa using h2.symm
        · exact .inl ⟨h1, h2⟩
end Go.Proofs.Yteflphhdafhapaa.Rng
