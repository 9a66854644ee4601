/- The table of types; Right, Size, Zero. types.number: the number of bytes, the lowest first. types.plain: why bytes are no value. cmp.Compare over numbers; types.whole. Floats of 4 bytes, widened. types.real, and floats in order. -/
import Derived.Test.YtokebpeplopjhaaDoorY1
import Derived.Laws.Bits64b
import Derived.Laws.FloatArith
namespace Go.Proofs.YtokebpeplopjhaaDoor.Mp
open Go.RowKit Go.Shelf Go.Proofs.YtokebpeplopjhaaDoor.Rng Go.Proofs.YtokebpeplopjhaaDoorW.PrintWords Go.Proofs.YtokebpeplopjhaaDoorW.PrintMore

theorem law_u8 : Maps.Keyed Tryd.prog 5 := Maps.int_keyed Tryd.underlying5
theorem wf_int {k : IntKind} {n : Int} (h0 : k.min ≤ n) (h1 : n ≤ k.max) : (Lit.int k n).wf = true := by simp [Lit.wf]; omega
theorem key_u8 {i : Int} (hi : 0 ≤ i ∧ i < 256) : keyOf Tryd.prog 5 (.int .u8 i) = some (.int .u8 i) := Maps.keyOf_int_mk Tryd.underlying5 (wf_int (by show (0 : Int) ≤ i; omega) (by show i ≤ 255; omega))

/-- The table of types, below B. -/
def tblF : Value → Option Value
  | .int .u8 t => if knd t = 0 then none else some (.agg #[.int .u8 (knd t), .int .i64 (siz t)])
  | _ => none
def TblB (B : Nat) (w : World) : Prop := ∃ bm, bm < B ∧ 0 < B ∧ w.cell? ⟨0, 0, none⟩ = some (.map (some bm)) ∧ MapAt Tryd.prog 5 w bm 18 tblF
def Tbl (w : World) : Prop := TblB w.heap.size w
theorem TblB.below {B : Nat} {w w' : World} (h : TblB B w) (hb : Below B w w') : TblB B w' := by
  obtain ⟨bm, h1, h2, h3, h4⟩ := h
  exact ⟨bm, h1, h2, (hb.cell h2).trans h3, h4.block (hb.block bm h1)⟩
theorem TblB.mono {B B' : Nat} {w : World} (h : TblB B w) (hB : B ≤ B') : TblB B' w := by
  obtain ⟨bm, h1, h2, h3, h4⟩ := h
  exact ⟨bm, by omega, by omega, h3, h4⟩
theorem below_drewN {B : Nat} {a w : World} (h : Below B a w) (m : Nat) : Below B a (w.drewN m) := ⟨h.os, h.tape, h.output, h.size, h.block⟩
theorem Tbl.below {w w' : World} (h : Tbl w) (hb : Below w.heap.size w w') : Tbl w' := (TblB.below h hb).mono hb.size
theorem TblB.tbl {B : Nat} {w : World} (h : TblB B w) : Tbl w := by
  obtain ⟨bm, h1, h2, h3, h4⟩ := h
  exact ⟨bm, h4.lt, World.block_lt_of_cell? w _ h3, h3, h4⟩
/-- What the table says: its cell, and the look-up at a type. -/
theorem Tbl.at_ {w : World} (h : Tbl w) {t : Int} (ht : 0 ≤ t ∧ t < 256) : ∃ bm, w.cell? ⟨0, 0, none⟩ = some (.map (some bm)) ∧
    (Instr.lookup 201 (.map (some bm)) (.int .u8 t) false).run Tryd.prog w = .ok (.agg #[.int .u8 (knd t), .int .i64 (siz t)]) w := by
  obtain ⟨bm, _, _, h3, h4⟩ := h
  have hz : (zeroValue 200).run Tryd.prog w = .ok (.agg #[.int .u8 0, .int .i64 0]) w := by kernel_rfl
  have h5 := h4.look law_u8 Tryd.underlying201 hz (key_u8 ht) false
  refine ⟨bm, h3, h5.trans ?_⟩
  by_cases hk : knd t = 0
  · have hs := (siz_of t).2.2.2.2.2.2 hk
    simp [tblF, hk, hs]
  · simp [tblF, hk]
/-- .. behind draws too. -/
theorem Tbl.atN {w : World} (h : Tbl w) {t : Int} (ht : 0 ≤ t ∧ t < 256) : ∃ bm, w.cell? ⟨0, 0, none⟩ = some (.map (some bm)) ∧
    (Instr.lookup 201 (.map (some bm)) (.int .u8 t) false).run Tryd.prog w = .ok (.agg #[.int .u8 (knd t), .int .i64 (siz t)]) w ∧
    ∀ m, (Instr.lookup 201 (.map (some bm)) (.int .u8 t) false).run Tryd.prog (w.drewN m) = .ok (.agg #[.int .u8 (knd t), .int .i64 (siz t)]) (w.drewN m) := by
  obtain ⟨bm, h1, h2⟩ := h.at_ ht
  refine ⟨bm, h1, h2, fun m => ?_⟩
  obtain ⟨bm', h3, h4⟩ := (Tbl.below h (below_drewN (Below.refl _ _) m)).at_ ht
  have h5 : (w.drewN m).cell? ⟨0, 0, none⟩ = w.cell? ⟨0, 0, none⟩ := rfl
  rw [h5, h1] at h3
  cases h3
  exact h4
theorem fields_form (k n : Int) : (∀ w : World, (Instr.field 200 (.agg #[.int .u8 k, .int .i64 n]) 0).run Tryd.prog w = .ok (.int .u8 k) w) ∧ ∀ w : World, (Instr.field 200 (.agg #[.int .u8 k, .int .i64 n]) 1).run Tryd.prog w = .ok (.int .i64 n) w := ⟨fun _ => by kernel_rfl, fun _ => by kernel_rfl⟩
set_option maxRecDepth 100000 in
theorem right_any (t : Int) (ht : 0 ≤ t ∧ t < 256) (w : World) (h : Tbl w) : Calls Tryd.prog 110 #[.int .u8 t] w fun e w' => e = .returned (.bool (knd t != 0)) ∧ w' = w := by
  obtain ⟨bm, hc, hl⟩ := h.at_ ht
  obtain ⟨hf0, hf1⟩ := fields_form (knd t) (siz t)
  go_enter Tryd.func110, Tryd.ntmps110
  go_wp2
  go_ret
  exact ⟨rfl, rfl⟩
set_option maxRecDepth 100000 in
theorem size_any (t : Int) (ht : 0 ≤ t ∧ t < 256) (w : World) (h : Tbl w) : Calls Tryd.prog 129 #[.int .u8 t] w fun e w' => e = .returned (.tuple #[.int .i64 (siz t), .bool (decide (0 < siz t))]) ∧ Below w.heap.size w w' := by
  obtain ⟨bm, hc, hl, hln⟩ := h.atN ht
  obtain ⟨hf0, hf1⟩ := fields_form (knd t) (siz t)
  go_enter Tryd.func129, Tryd.ntmps129
  go_wp2
  go_quiet (fail)
  go_wp2
  go_ret2
  exact ⟨rfl, below_drewN (Below.refl _ _) _⟩
set_option maxRecDepth 100000 in
set_option maxHeartbeats 1000000 in
theorem zero_any (t : Int) (ht : 0 ≤ t ∧ t < 256) (w : World) (h : Tbl w) : Calls Tryd.prog 111 #[.int .u8 t] w fun e w' => ∃ v0_ : Value, e = .returned v0_ ∧ Kd.R kB 5 w' w.heap.size (fun _ => True) v0_ (List.replicate (siz t).toNat 0) ∧ Below w.heap.size w w' := by
  obtain ⟨bm, hc, hl⟩ := h.at_ ht
  obtain ⟨hf0, hf1⟩ := fields_form (knd t) (siz t)
  have hs := siz_cases t
  go_enter Tryd.func111, Tryd.ntmps111
  go_wp2_with ((with_reducible refine gate_dst (N := 7) rfl ?_); refine Kd.R_make kB (w0 := w) w.heap.size 5 rfl (N := 7) rfl 34 _ _ rfl (siz t) rfl rfl Tryd.underlying34 (.int .u8 0) 1 info_u8 rfl (by decide) (by decide) 0 (ok := fun _ => True) (okp := fun _ => True) rfl (fun _ hk => hk) trivial (by omega) (by omega) (Below.refl _ _) (Nat.le_refl _) ?_; intro v1 w1 hown hb hg hat; have HO := Aside0.mk hown; have HB := Aside0.mk hb; clear hown hb hg hat)
  go_ret
  exact ⟨_, rfl, HO.out, HB.out⟩
end Go.Proofs.YtokebpeplopjhaaDoor.Mp
namespace Go.Proofs.YtokebpeplopjhaaDoor.Num
open Go.RowKit Go.Shelf Go.Proofs.YtokebpeplopjhaaDoor.Rng Go.Proofs.YtokebpeplopjhaaDoor.Mp
attribute [local go_sem] Oper.semAt_some

theorem blk_cell {W : World} {g : Nat} {v : Value} {t : TypeId} (h : W.heap[g]? = some (.cells #[v] t (0, 0))) : W.cell? ⟨g, 0, none⟩ = some v := by simp [World.cell?, h]
theorem blk_free {W : World} {g : Nat} {v : Value} {t : TypeId} (h : W.heap[g]? = some (.cells #[v] t (0, 0))) : W.frozen? ⟨g, 0, none⟩ = false := by simp [World.frozen?, h]
theorem blk_put {W : World} {g : Nat} {v : Value} {t : TypeId} (h : W.heap[g]? = some (.cells #[v] t (0, 0))) (u : Value) : (W.setCell ⟨g, 0, none⟩ u).heap[g]? = some (.cells #[u] t (0, 0)) := by
  simp [World.setCell, Array.getElem?_modify, h]
theorem _root_.Go.Proofs.YtokebpeplopjhaaDoor.Rng.Fr.blk {M : Nat → Prop} {w W : World} (h : Fr M w W) {g : Nat} {o : Obj} (hb : w.heap[g]? = some o) (hm : ¬ M g) : W.heap[g]? = some o :=
  (h.block g (Array.getElem?_eq_some_iff.1 hb).1 hm).trans hb

def stepU (n x : Int) : Int := bits .or .u64 (IntKind.u64.wrap (n * 256)) (IntKind.u64.wrap x)
theorem u64_in {x : Int} (h0 : 0 ≤ x) (h1 : x < 18446744073709551616) : IntKind.u64.wrap x = x := by
  show x % 18446744073709551616 = x
  omega
theorem or_join (a b : Nat) (hb : b < 256) : (256 * a) ||| b = 256 * a + b := by
  have := Nat.two_pow_add_eq_or_of_lt (i := 8) hb a
  simpa using this.symm
theorem stepU_val (n x : Int) (h0 : 0 ≤ n) (h1 : n < 72057594037927936) (h2 : 0 ≤ x) (h3 : x < 256) : stepU n x = x + 256 * n := by
  unfold stepU
  rw [u64_in (by omega) (by omega), u64_in h2 (by omega)]
  obtain ⟨a, rfl⟩ := Int.eq_ofNat_of_zero_le h0
  obtain ⟨b, rfl⟩ := Int.eq_ofNat_of_zero_le h2
  rw [show (a : Int) * 256 = ((256 * a : Nat) : Int) by omega, bits_or_u64_nat _ _ (by omega) (by omega), or_join _ _ (by omega)]
  omega
theorem pow256 (m : Nat) (h : m ≤ 7) : (256 : Int) ^ m ≤ 72057594037927936 := by
  match m, h with
  | 0, _ => decide
  | 1, _ => decide
  | 2, _ => decide
  | 3, _ => decide
  | 4, _ => decide
  | 5, _ => decide
  | 6, _ => decide
  | 7, _ => decide
theorem stepU_num (zs : List Int) (hb : Byt zs) (hl : zs.length ≤ 8) (k : Nat) (hk : k < zs.length) : stepU (num (zs.drop (zs.length - k))) (zs[zs.length - 1 - k]?.getD 0) = num (zs.drop (zs.length - (k + 1))) := by
  have e : zs.drop (zs.length - (k + 1)) = (zs[zs.length - 1 - k]?.getD 0) :: zs.drop (zs.length - k) := by
    rw [show zs.length - (k + 1) = zs.length - 1 - k by omega, List.drop_eq_getElem_cons (by omega), List.getElem?_eq_getElem (by omega), Option.getD_some, show zs.length - 1 - k + 1 = zs.length - k by omega]
  have hd : Byt (zs.drop (zs.length - k)) := fun x hx => hb x (List.mem_of_mem_drop hx)
  have hx : 0 ≤ zs[zs.length - 1 - k]?.getD 0 ∧ zs[zs.length - 1 - k]?.getD 0 < 256 := by
    rw [List.getElem?_eq_getElem (by omega)]
    exact hb _ (List.getElem_mem _)
  have h1 := num_lt hd
  have h2 := pow256 (zs.drop (zs.length - k)).length (by simp; omega)
  rw [stepU_val _ _ (num_nonneg hd) (by omega) hx.1 hx.2, e]
  rfl

set_option maxRecDepth 100000 in
set_option maxHeartbeats 1000000 in
theorem backward (A : Option Addr) (n c : Nat) (w : World) :
    Calls Tryd.prog 147 #[.slice A n c] w fun e w' => e = .returned (.func (.func 155) #[] #[.pointer (some ⟨w.heap.size, 0, none⟩)]) ∧ w' = w.alloc (.cells #[.slice A n c] 34) := by
  go_enter Tryd.func147, Tryd.ntmps147
  go_wp2
  go_ret
  exact ⟨rfl, rfl⟩

/-- Leaving by the one mark of a range over a function. -/
theorem leave_one {P : Program} {fn : Func} {R : Ending → World → Prop} {tmps : Array Value} {D : Nat} {W : World} {u : FrameMode} (hu : u = .returning)
    (hK : W.heap[D]? = some (.deferred (some []))) {v : Value} (hr : (results fn tmps).run P (W.putObj D (.deferred none)) = .ok v (W.putObj D (.deferred none))) (hR : R (.returned v) (W.putObj D (.deferred none))) :
    LeavesInM Fence.wide 3 P fn tmps R [{ target := .collected D, args := #[] }] u W := by
  subst hu
  exact ⟨by simp, .inl ⟨_, _, rfl, run_takeDeferred hK, ⟨_, hr, hR⟩⟩⟩

set_option maxRecDepth 100000 in
set_option maxHeartbeats 2000000 in
theorem number_any (A : Option Addr) (c : Nat) (zs : List Int) (w : World) (hz : Rd w A zs) (hb : Byt zs) (hl : zs.length ≤ 8) :
    Calls Tryd.prog 130 #[.slice A zs.length c] w fun e w' => e = .returned (.int .u64 (num zs)) ∧ Below w.heap.size w w' := by
  refine (callsIn_wide (n := 3)).1 ?_
  refine callsIn_of_wp_marks Tryd.func130 rfl trivial ?_ rfl
  simp only [Tryd.ntmps130, List.size_toArray, List.length_cons, List.length_nil, Nat.reduceAdd, Nat.reduceSub, Array.replicate_succ, Array.replicate_zero, List.push_toArray, List.append_toArray, List.nil_append, List.cons_append]
  have Hz := Lib.hid hz
  have HA := Lib.hid hz.off
  have HY := Lib.hid hb
  have HL := Lib.hid hl
  clear hz hb hl
  gi_wp2_with (refine ⟨trivial, ?_⟩; gi_at_call 147; refine (callsIn_wide.2 (backward _ _ _ _)).mono ?_; rintro e w' ⟨rfl, rfl⟩)
  obtain ⟨W0, hW0⟩ : ∃ W0, (w.alloc (.cells #[.int .u64 0] 203)).alloc (.cells #[.slice A zs.length c] 34) = W0 := ⟨_, rfl⟩
  have hs0 : W0.heap.size = w.heap.size + 2 := by rw [← hW0]; simp
  have hb0 : W0.heap[w.heap.size]? = some (.cells #[.int .u64 0] 203 (0, 0)) := by
    rw [← hW0, Below.heap_alloc _ _ _ (by simp)]; exact World.alloc_heap_new w _
  have hb1 : W0.heap[w.heap.size + 1]? = some (.cells #[.slice A zs.length c] 34 (0, 0)) := by
    rw [← hW0]; have := World.alloc_heap_new (w.alloc (.cells #[.int .u64 0] 203)) (.cells #[.slice A zs.length c] 34); rwa [World.size_alloc] at this
  have hf0 : Below w.heap.size w W0 := by rw [← hW0]; exact ((Below.refl _ w).alloc (Nat.le_refl _) _).alloc (by simp) _
  rw [hW0]
  have F0 := Lib.hid hf0
  have B0 := Lib.hid hb0
  have B1 := Lib.hid hb1
  have S0 := Lib.hid hs0
  clear hf0 hb0 hb1 hs0 hW0
  refine wp_range (gf := 155) (lb := #[.pointer (some ⟨w.heap.size + 1, 0, none⟩)]) rfl (enters_of Tryd.func155 (by kernel_rfl) rfl) zs.length (backs zs) (fun k => k = w.heap.size) (fun _ => False)
    ⟨by have := S0.out; omega, by have := S0.out; omega⟩ ⟨id, id⟩ (by rintro k x W rfl; rfl) ?_
    (fun k W => W.heap[w.heap.size]? = some (.cells #[.int .u64 (num (zs.drop (zs.length - k)))] 203 (0, 0)) ∧ Below w.heap.size w W) (fun _ _ _ => False) ?_ (fun _ _ _ _ h _ => h) ⟨by rw [show num (zs.drop (zs.length - 0)) = 0 by simp [num]]; exact B0.out, F0.out⟩ ?_ ?_ (fun _ _ _ _ _ h => h.elim)
  · intro o
    have hs := S0.out
    refine back_seq (w.heap.size + 1) c A zs _ _ ?_ (by omega) ?_ ?_
    · exact ((Fr.alloc (fun _ => False) W0 _).trans (Fr.alloc _ _ _)).cell (blk_cell B1.out) id
    · exact (Hz.out.fr (Fr.of_below (M := fun _ => False) F0.out) (fun _ _ _ => id)).fr ((Fr.alloc (fun _ => False) W0 _).trans (Fr.alloc _ _ _)) (fun _ _ _ => id)
    · intro ad e hn h
      have := HA.out ad e hn
      omega
  · rintro k X Y ⟨h1, h2⟩ hf
    have hs := S0.out
    exact ⟨hf.blk h1 (by rintro (h | h | h) <;> omega), h2.trans (hf.below (B := w.heap.size) (fun j hj => ⟨by have := h2.size; omega, by rintro (h | h | h) <;> omega⟩))⟩
  · intro l k args W hkl hk hsz hI
    obtain rfl := hk
    obtain ⟨x, hx⟩ : ∃ x, zs[zs.length - 1 - k]?.getD 0 = x := ⟨_, rfl⟩
    rw [hx]
    have HX := Lib.hid hx
    obtain ⟨hb, hf⟩ := hI
    have HF := Lib.hid hf
    have HB := Lib.hid hb
    clear hx hb hf
    gi_wp2
    refine ⟨Fr.refl _ _, ?_⟩
    intro W2 hf2
    have hb2 := hf2.blk HB.out (by have := S0.out; omega)
    have hc2 := blk_cell hb2
    have hz2 := blk_free hb2
    have HB2 := Lib.hid hb2
    have HF2 := Lib.hid hf2
    clear hb2 hf2
    gi_wp2
    refine ⟨Fr.setCell _ _ _ (.inl rfl), ?_, ?_⟩
    · have hsn := stepU_num zs HY.out HL.out k hkl
      rw [HX.out] at hsn
      rw [← hsn]
      exact blk_put HB2.out _
    · have hs := S0.out
      exact (HF.out.trans (HF2.out.below (B := w.heap.size) (fun j hj => ⟨by omega, by omega⟩))).setCell (p := ⟨w.heap.size, 0, none⟩) (Nat.le_refl _) _
  · intro W hsz hI hK
    obtain ⟨hb, hf⟩ := hI
    have hc := blk_cell hb
    rw [Nat.sub_self, List.drop_zero] at hc
    have HK := Lib.hid hK
    have HF := Lib.hid hf
    clear hb hf hK
    gi_wp2
    have hs := S0.out
    refine leave_one rfl HK.out (results_tmp rfl _ _ _) ⟨rfl, ?_⟩
    exact HF.out.trans ((Fr.putObj (M := fun j => j = W0.heap.size) W _ _ (.inl rfl)).below (B := w.heap.size) (fun j hj => ⟨by omega, by omega⟩))
end Go.Proofs.YtokebpeplopjhaaDoor.Num
namespace Go.Proofs.YtokebpeplopjhaaDoor.Mp
open Go.RowKit Go.Shelf Go.Proofs.YtokebpeplopjhaaDoor.Rng Go.Proofs.YtokebpeplopjhaaDoorW.PrintWords Go.Proofs.YtokebpeplopjhaaDoorW.PrintMore Go.Proofs.YtokebpeplopjhaaDoor.Num

theorem _root_.Go.Proofs.YtokebpeplopjhaaDoor.Rng.Rd.take {w : World} {A : Option Addr} {zs : List Int} (h : Rd w A zs) (m : Nat) : Rd w A (zs.take m) := by
  refine ⟨by have := h.1; simp; omega, fun hn => ?_⟩
  obtain ⟨ad, e, hc⟩ := h.2 (by simp at hn; omega)
  refine ⟨ad, e, fun j hj => ?_⟩
  have hj' : j < m ∧ j < zs.length := by simp at hj; omega
  rw [hc j hj'.2, List.getElem?_take, if_pos hj'.1]
set_option maxRecDepth 100000 in
set_option maxHeartbeats 2000000 in
theorem plain_any (t : Int) (ht : 0 ≤ t ∧ t < 256) (A : Option Addr) (c : Nat) (zs : List Int) (w : World) (h : Tbl w) (hz : Rd w A zs) (hb : Byt zs) (hc : zs.length ≤ c) (hcc : c ≤ 9223372036854775807) :
    Calls Tryd.prog 115 #[.int .u8 t, .slice A zs.length c] w fun e w' => e = .returned (.int .u32 (plainC t zs)) ∧ Below w.heap.size w w' := by
  obtain ⟨bm, hcell, hl⟩ := h.at_ ht
  have hsz := siz_of t
  have hkc := knd_cases t
  obtain ⟨r, hr⟩ : ∃ r, plainC t zs = r := ⟨_, rfl⟩
  have HR := hr
  unfold plainC at hr
  rw [HR]
  obtain ⟨k, hk⟩ : ∃ k, knd t = k := ⟨_, rfl⟩
  obtain ⟨s, hs⟩ : ∃ s, siz t = s := ⟨_, rfl⟩
  obtain ⟨n, hn⟩ : ∃ n, zs.length = n := ⟨_, rfl⟩
  rw [hk, hs] at hl hsz hr
  rw [hk] at hkc
  rw [hn] at hr hc ⊢
  have HZ := Aside0.mk hz
  have HY := Aside0.mk hb
  have HN := Aside0.mk hn
  clear hz hb hn h HR hk hs
  rcases hkc with rfl | hk
  · simp at hr
    subst hr
    clear hsz
    go_enter Tryd.func115, Tryd.ntmps115
    go_wp2
    go_ret
    exact ⟨rfl, below_alloc (Below.refl _ _) _⟩
  by_cases h1 : (4096 : Int) < n
  · rw [if_neg (by omega), if_pos (.inl h1)] at hr
    subst hr
    rcases hk with rfl | rfl | rfl | rfl | rfl | rfl <;> clear hsz
    all_goals
      go_enter Tryd.func115, Tryd.ntmps115
      go_wp2
      go_ret
      exact ⟨rfl, below_alloc (Below.refl _ _) _⟩
  by_cases h2 : s < n
  · have h1' : (n : Int) ≤ 4096 := by omega
    by_cases h6 : k = 6
    · subst h6
      have hs := hsz.2.2.2.2.2.1 rfl
      subst hs
      rw [if_neg (by decide), if_neg (by omega), if_neg (by omega), if_neg (by omega)] at hr
      subst hr
      clear hsz hk
      go_enter Tryd.func115, Tryd.ntmps115
      go_wp2
      go_ret
      exact ⟨rfl, below_alloc (Below.refl _ _) _⟩
    · rw [if_neg (by omega), if_pos (.inr ⟨h6, h2⟩)] at hr
      subst hr
      rcases hk with rfl | rfl | rfl | rfl | rfl | rfl <;> clear hsz
      all_goals first | exact absurd rfl h6 | skip
      all_goals
        go_enter Tryd.func115, Tryd.ntmps115
        go_wp2
        go_ret
        exact ⟨rfl, below_alloc (Below.refl _ _) _⟩
  have h1' : (n : Int) ≤ 4096 := by omega
  have h2' : (n : Int) ≤ s := by omega
  by_cases h3 : (n : Int) < s
  · rw [if_neg (by omega), if_neg (by omega), if_pos h3] at hr
    subst hr
    have h6 : k ≠ 6 := fun e => by have := hsz.2.2.2.2.2.1 e; omega
    rcases hk with rfl | rfl | rfl | rfl | rfl | rfl <;> clear hsz
    all_goals first | exact absurd rfl h6 | skip
    all_goals
      go_enter Tryd.func115, Tryd.ntmps115
      go_wp2
      go_ret
      exact ⟨rfl, below_alloc (Below.refl _ _) _⟩
  obtain rfl : s = n := by omega
  rw [if_neg (by omega), if_neg (by omega), if_neg (by omega)] at hr
  rcases hk with rfl | rfl | rfl | rfl | rfl | rfl
  · have hs := hsz.1 rfl
    obtain rfl : n = 1 := by omega
    obtain ⟨ad, rfl, hx⟩ := HZ.out.at_ 0 (by have := HN.out; omega)
    obtain ⟨x, hxe⟩ : ∃ x, zs[0]?.getD 0 = x := ⟨_, rfl⟩
    rw [hxe] at hx hr
    rw [show ad.add 0 = ad from rfl] at hx
    have hx2 : ∀ o, (w.alloc o).cell? ad = some (.int .u8 x) := fun o => ((below_alloc (Below.refl w.heap.size w) o).cell (World.block_lt_of_cell? w _ hx)).trans hx
    clear hsz hs hxe
    by_cases hx1 : 1 < x
    · rw [if_pos (.inl ⟨rfl, hx1⟩)] at hr
      subst hr
      go_enter Tryd.func115, Tryd.ntmps115
      go_wp2
      go_ret
      exact ⟨rfl, below_alloc (Below.refl _ _) _⟩
    · rw [if_neg (by omega)] at hr
      subst hr
      go_enter Tryd.func115, Tryd.ntmps115
      go_wp2
      go_ret
      exact ⟨rfl, below_alloc (Below.refl _ _) _⟩
  · rw [if_neg (by omega)] at hr
    subst hr
    clear hsz
    go_enter Tryd.func115, Tryd.ntmps115
    go_wp2
    go_ret
    exact ⟨rfl, below_alloc (Below.refl _ _) _⟩
  · rw [if_neg (by omega)] at hr
    subst hr
    clear hsz
    go_enter Tryd.func115, Tryd.ntmps115
    go_wp2
    go_ret
    exact ⟨rfl, below_alloc (Below.refl _ _) _⟩
  · rw [if_neg (by omega)] at hr
    subst hr
    clear hsz
    go_enter Tryd.func115, Tryd.ntmps115
    go_wp2
    go_ret
    exact ⟨rfl, below_alloc (Below.refl _ _) _⟩
  · have hs := hsz.2.2.2.2.1 rfl
    obtain rfl : n = 6 := by omega
    obtain ⟨y, hy⟩ : ∃ y, num (zs.take 4) = y := ⟨_, rfl⟩
    rw [hy] at hr
    have h4 : (zs.take 4).length = 4 := by have := HN.out; simp; omega
    have HNB := Aside0.mk fun W (hr : Rd W A zs) => number_any A c (zs.take 4) W (hr.take 4) (fun x hx => HY.out x (List.mem_of_mem_take hx)) (by omega)
    rw [h4, hy] at HNB
    clear hsz hs hy h4
    by_cases hx1 : 86400000 ≤ y
    · rw [if_pos (.inr ⟨rfl, hx1⟩)] at hr
      subst hr
      go_enter Tryd.func115, Tryd.ntmps115
      go_wp2_with (go_at_call 130; refine (HNB.out _ (HZ.out.below (below_alloc (Below.refl _ _) _))).mono ?_; rintro e w1 ⟨rfl, hb⟩; have HB := Aside0.mk hb; clear hb)
      go_ret
      exact ⟨rfl, (below_alloc (Below.refl _ _) _).trans (HB.out.mono (by simp))⟩
    · rw [if_neg (by omega)] at hr
      subst hr
      go_enter Tryd.func115, Tryd.ntmps115
      go_wp2_with (go_at_call 130; refine (HNB.out _ (HZ.out.below (below_alloc (Below.refl _ _) _))).mono ?_; rintro e w1 ⟨rfl, hb⟩; have HB := Aside0.mk hb; clear hb)
      go_ret
      exact ⟨rfl, (below_alloc (Below.refl _ _) _).trans (HB.out.mono (by simp))⟩
  · rw [if_neg (by omega)] at hr
    subst hr
    clear hsz
    go_enter Tryd.func115, Tryd.ntmps115
    go_wp2
    go_ret
    exact ⟨rfl, below_alloc (Below.refl _ _) _⟩
end Go.Proofs.YtokebpeplopjhaaDoor.Mp
namespace Go.Proofs.YtokebpeplopjhaaDoor.Mp
open Go.RowKit Go.Shelf Go.Proofs.YtokebpeplopjhaaDoor.Rng Go.Proofs.YtokebpeplopjhaaDoorW.PrintWords Go.Proofs.YtokebpeplopjhaaDoorW.PrintMore Go.Proofs.YtokebpeplopjhaaDoor.Num
theorem ret_i {k : IntKind} {a b : Int} (h : a = b) : Ending.returned (.int k a) = .returned (.int k b) := by rw [h]
set_option maxRecDepth 100000 in
theorem isnan_i (x : Int) (w : World) : Calls Tryd.prog 148 #[.int .i64 x] w fun e w' => e = .returned (.bool false) ∧ w' = w := by
  go_enter Tryd.func148, Tryd.ntmps148
  go_wp2
  go_ret
  exact ⟨rfl, rfl⟩
set_option maxRecDepth 100000 in
theorem compare_i (x y : Int) (w : World) : Calls Tryd.prog 131 #[.int .i64 x, .int .i64 y] w fun e w' => e = .returned (.int .i64 (cmp3 x y)) ∧ w' = w := by
  obtain ⟨r, hr⟩ : ∃ r, cmp3 x y = r := ⟨_, rfl⟩
  rw [hr]
  unfold cmp3 at hr
  by_cases h1 : x < y
  · rw [if_pos h1] at hr
    subst hr
    go_enter Tryd.func131, Tryd.ntmps131
    go_wp2_with (go_at_call 148; refine (isnan_i _ _).mono ?_; rintro e w1 ⟨rfl, rfl⟩)
    go_ret
    exact ⟨rfl, rfl⟩
  · rw [if_neg h1] at hr
    by_cases h2 : y < x
    · rw [if_pos h2] at hr
      subst hr
      clear h1
      have h1 : ¬ x < y := by omega
      go_enter Tryd.func131, Tryd.ntmps131
      go_wp2_with (go_at_call 148; refine (isnan_i _ _).mono ?_; rintro e w1 ⟨rfl, rfl⟩)
      go_ret
      exact ⟨rfl, rfl⟩
    · rw [if_neg h2] at hr
      subst hr
      go_enter Tryd.func131, Tryd.ntmps131
      go_wp2_with (go_at_call 148; refine (isnan_i _ _).mono ?_; rintro e w1 ⟨rfl, rfl⟩)
      go_ret
      exact ⟨rfl, rfl⟩
set_option maxRecDepth 100000 in
theorem isnan_u (x : Int) (w : World) : Calls Tryd.prog 153 #[.int .u64 x] w fun e w' => e = .returned (.bool false) ∧ w' = w := by
  go_enter Tryd.func153, Tryd.ntmps153
  go_wp2
  go_ret
  exact ⟨rfl, rfl⟩
set_option maxRecDepth 100000 in
theorem compare_u (x y : Int) (w : World) : Calls Tryd.prog 138 #[.int .u64 x, .int .u64 y] w fun e w' => e = .returned (.int .i64 (cmp3 x y)) ∧ w' = w := by
  obtain ⟨r, hr⟩ : ∃ r, cmp3 x y = r := ⟨_, rfl⟩
  rw [hr]
  unfold cmp3 at hr
  by_cases h1 : x < y
  · rw [if_pos h1] at hr
    subst hr
    go_enter Tryd.func138, Tryd.ntmps138
    go_wp2_with (go_at_call 153; refine (isnan_u _ _).mono ?_; rintro e w1 ⟨rfl, rfl⟩)
    go_ret
    exact ⟨rfl, rfl⟩
  · rw [if_neg h1] at hr
    by_cases h2 : y < x
    · rw [if_pos h2] at hr
      subst hr
      clear h1
      have h1 : ¬ x < y := by omega
      go_enter Tryd.func138, Tryd.ntmps138
      go_wp2_with (go_at_call 153; refine (isnan_u _ _).mono ?_; rintro e w1 ⟨rfl, rfl⟩)
      go_ret
      exact ⟨rfl, rfl⟩
    · rw [if_neg h2] at hr
      subst hr
      go_enter Tryd.func138, Tryd.ntmps138
      go_wp2_with (go_at_call 153; refine (isnan_u _ _).mono ?_; rintro e w1 ⟨rfl, rfl⟩)
      go_ret
      exact ⟨rfl, rfl⟩
set_option maxRecDepth 100000 in
set_option maxHeartbeats 1000000 in
theorem whole_any (A : Option Addr) (c : Nat) (zs : List Int) (w : World) (hz : Rd w A zs) (hb : Byt zs) (hl : zs.length = 1 ∨ zs.length = 2 ∨ zs.length = 3 ∨ zs.length = 4 ∨ zs.length = 8) :
    Calls Tryd.prog 132 #[.slice A zs.length c] w fun e w' => e = .returned (.int .i64 (wholeC zs)) ∧ Below w.heap.size w w' := by
  have HNB := Aside0.mk (number_any A c zs w hz hb (by omega))
  have h0 := num_nonneg hb
  have h1 := num_lt hb
  obtain ⟨r, hr⟩ : ∃ r, wholeC zs = r := ⟨_, rfl⟩
  rw [hr]
  unfold wholeC at hr
  generalize num zs = y at h0 h1 hr HNB
  generalize zs.length = n at *
  have HR := Aside0.mk hr
  clear hr hz
  rcases hl with rfl | rfl | rfl | rfl | rfl
  all_goals
    simp only [Int.pow_succ, Int.pow_zero] at h1
    go_enter Tryd.func132, Tryd.ntmps132
    go_wp2_with (go_at_call 130; refine HNB.out.mono ?_; rintro e w1 ⟨rfl, hb⟩; have HB := Aside0.mk hb; clear hb)
    go_ret
    refine ⟨ret_i ?_, HB.out⟩
    rw [← HR.out]
    simp only [Int.pow_succ, Int.pow_zero]
    unfold wrap64
    split <;> omega
end Go.Proofs.YtokebpeplopjhaaDoor.Mp
namespace Go.Proofs.YtokebpeplopjhaaDoor.Mp
open Ieee

theorem shl_mul (m k : Nat) : m <<< k = m * 2 ^ k := Nat.shiftLeft_eq m k
theorem cut_zero (s : Bool) (n : Nat) : Toward.even.cut s n 0 = n := by
  unfold Toward.cut
  have e1 : (1 : Nat) <<< min 0 (n.log2 + 2) = 1 := by simp
  simp only [e1, Nat.div_one, Nat.mod_one]
  simp
theorem word_read (s : Bool) (r : Nat) (h : r < 9223372036854775808) : double.word s r / 9223372036854775808 % 2 = (if s = true then 1 else 0) ∧ double.word s r % 9223372036854775808 = r ∧ double.word s r < 18446744073709551616 := by
  have sw : double.signWeight = 9223372036854775808 := by decide +kernel
  unfold Format.word
  rw [sw]
  cases s <;> simp <;> omega
theorem read_word (s : Bool) (r : Nat) (h1 : 4503599627370496 ≤ r) (h2 : r < 9218868437227405312) : double.read (double.word s r) = .number s (4503599627370496 + r % 4503599627370496) (-1074 + (r / 4503599627370496 - 1 : Nat)) := by
  have lp : double.leastPlace = -1074 := by decide +kernel
  have bin : double.binade = 4503599627370496 := by decide +kernel
  have inf : double.infRung = 9218868437227405312 := by decide +kernel
  have sw : double.signWeight = 9223372036854775808 := by decide +kernel
  obtain ⟨e1, e2, _⟩ := word_read s r (by omega)
  unfold Format.read
  rw [sw, e1, e2, bin, inf, lp, if_neg (by omega), if_pos h2]
  cases s <;> rfl
/-- A number of few digits, in 64 bits, is itself. -/
theorem double_number (s : Bool) (m : Nat) (e : Int) (h0 : 0 < m) (hm : m < 16777216) (he : -149 ≤ e ∧ e ≤ 104) :
    double.read (double.write (.number s m e)) = .number s (m * 2 ^ (52 - m.log2)) (e + m.log2 - 52) ∧ double.write (.number s m e) < 18446744073709551616 := by
  have hl : m.log2 < 24 := by
    rw [Nat.log2_lt (by omega)]
    exact hm
  have hlo : 2 ^ m.log2 ≤ m := Nat.log2_self_le (by omega)
  have hhi : m < 2 ^ (m.log2 + 1) := Nat.lt_log2_self
  have lp : double.leastPlace = -1074 := by decide +kernel
  have fb : double.fractionBits = 52 := by decide +kernel
  have bin : double.binade = 4503599627370496 := by decide +kernel
  have inf : double.infRung = 9218868437227405312 := by decide +kernel
  have hw0 : double.write (.number s m e) = double.word s (min (((max (e + (m.log2 : Int) - (52 : Nat)) (-1074)) - -1074).toNat * 4503599627370496 + Toward.even.cut s (m <<< (e - max (e + (m.log2 : Int) - (52 : Nat)) (-1074)).toNat) (max (e + (m.log2 : Int) - (52 : Nat)) (-1074) - e).toNat) 9218868437227405312) := by
    unfold Format.write Format.nearest
    simp only
    rw [if_neg (by omega), fb, lp, bin, inf]
  obtain ⟨l, hle⟩ : ∃ l, m.log2 = l := ⟨_, rfl⟩
  rw [hle] at hl hlo hhi hw0 ⊢
  have hlast : max (e + (l : Int) - (52 : Nat)) (-1074) = e + l - 52 := by omega
  have hp : (2 : Nat) ^ l * 2 ^ (52 - l) = 4503599627370496 := by rw [← Nat.pow_add, show l + (52 - l) = 52 by omega]
  have hk1 : 4503599627370496 ≤ m * 2 ^ (52 - l) := by rw [← hp]; exact Nat.mul_le_mul_right _ hlo
  have hk2 : m * 2 ^ (52 - l) < 9007199254740992 := by
    have h3 : m * 2 ^ (52 - l) < 2 ^ (l + 1) * 2 ^ (52 - l) := (Nat.mul_lt_mul_right (Nat.two_pow_pos _)).2 hhi
    rw [Nat.pow_succ, Nat.mul_assoc, Nat.mul_comm 2, ← Nat.mul_assoc, hp] at h3
    exact h3
  obtain ⟨E, hE⟩ : ∃ E : Nat, e + l + 1022 = E := ⟨(e + l + 1022).toNat, by omega⟩
  rw [hlast, show (e - (e + (l : Int) - 52)).toNat = 52 - l by omega, show (e + (l : Int) - 52 - e).toNat = 0 by omega, shl_mul, cut_zero, show (e + (l : Int) - 52 - -1074).toNat = E by omega] at hw0
  obtain ⟨q, hq⟩ : ∃ q, m * 2 ^ (52 - l) = q := ⟨_, rfl⟩
  rw [hq] at hw0 hk1 hk2 ⊢
  have hE1 : E * 4503599627370496 ≤ 5174635971848699904 := Nat.mul_le_mul_right 4503599627370496 (show E ≤ 1149 by omega)
  have hm1 : (E * 4503599627370496 + q) % 4503599627370496 = q - 4503599627370496 := by
    rw [Nat.add_comm, Nat.add_mul_mod_self_right]
    clear hE1 hw0 hp hlo hhi hq hE
    omega
  have hd1 : (E * 4503599627370496 + q) / 4503599627370496 = E + 1 := by
    rw [Nat.add_comm, Nat.add_mul_div_right _ _ (by decide +kernel)]
    clear hE1 hw0 hp hlo hhi hq hE
    omega
  rw [show (e + (l : Int) - 52) = -1074 + (E : Int) by omega]
  clear hlo hhi hp hq hE hle
  generalize hZ : E * 4503599627370496 + q = Z at *
  have hZ1 : 4503599627370496 ≤ Z ∧ Z < 9218868437227405312 := by
    generalize E * 4503599627370496 = Y at *
    omega
  clear hZ hE1
  rw [Nat.min_eq_left (by omega)] at hw0
  rw [hw0]
  refine ⟨?_, (word_read s _ (by omega)).2.2⟩
  rw [read_word s _ hZ1.1 hZ1.2, hm1, hd1, show 4503599627370496 + (q - 4503599627370496) = q by omega, Nat.add_sub_cancel]
theorem single_number {y : Nat} {s : Bool} {m : Nat} {e : Int} (h : single.read y = .number s m e) : m < 16777216 ∧ -149 ≤ e ∧ e ≤ 104 := by
  have lp : single.leastPlace = -149 := by decide +kernel
  have bin : single.binade = 8388608 := by decide +kernel
  have inf : single.infRung = 2139095040 := by decide +kernel
  unfold Format.read at h
  simp only [lp, bin, inf] at h
  generalize y % single.signWeight = r at h
  split at h
  · cases h
    omega
  · split at h
    · cases h
      omega
    · split at h <;> cases h
theorem double_zero (s : Bool) (e : Int) : double.read (double.write (.number s 0 e)) = .number s 0 (-1074) ∧ double.write (.number s 0 e) < 18446744073709551616 := by
  have h : double.write (.number s 0 e) = double.word s 0 := by
    unfold Format.write Format.nearest
    simp only
    rw [if_pos trivial]
  rw [h]
  cases s <;> decide +kernel
theorem double_inf (s : Bool) : double.read (double.write (.infinity s)) = .infinity s ∧ double.write (.infinity s) < 18446744073709551616 := by
  cases s <;> decide +kernel
end Go.Proofs.YtokebpeplopjhaaDoor.Mp
namespace Go.Proofs.YtokebpeplopjhaaDoor.Mp
open Go.RowKit Go.Shelf Go.Proofs.YtokebpeplopjhaaDoor.Rng Go.Proofs.YtokebpeplopjhaaDoorW.PrintWords Go.Proofs.YtokebpeplopjhaaDoorW.PrintMore Go.Proofs.YtokebpeplopjhaaDoor.Num

/-- Floats of 64 bits in order. -/
abbrev ordF (X Y : Nat) : Option Ordering := FloatKind.f64.format.order X Y
/-- The bits of a float of 4 bytes, in 64. -/
def wideF (y : Nat) : Nat := FloatKind.f64.encode (FloatKind.f32.decode y)
def nanF (zs : List Int) : Prop := if zs.length = 4 then (FloatKind.f32.decode (num zs).toNat).isNaN = true else ordF (num zs).toNat (num zs).toNat ≠ some .eq
instance (zs : List Int) : Decidable (nanF zs) := by unfold nanF; split <;> infer_instance
def bitF (zs : List Int) : Nat := if zs.length = 4 then wideF (num zs).toNat else (num zs).toNat
theorem frombits64 (y : Int) (w : World) : (callFunc 150 #[.int .u64 y]).run Tryd.prog w = .ok (.value (.float .f64 y.toNat)) w := by
  rw [run_callFunc_extern Tryd.func150 (by kernel_rfl) (by kernel_rfl) (by kernel_rfl) (e := Extern.MathFloatBits.float64frombits) (by kernel_rfl)]
  rfl
theorem frombits32 (y : Int) (w : World) : (callFunc 149 #[.int .u32 y]).run Tryd.prog w = .ok (.value (.float .f32 y.toNat)) w := by
  rw [run_callFunc_extern Tryd.func149 (by kernel_rfl) (by kernel_rfl) (by kernel_rfl) (e := Extern.MathFloatBits.float32frombits) (by kernel_rfl)]
  rfl
theorem tobits64 (y : Nat) (w : World) : (callFunc 152 #[.float .f64 y]).run Tryd.prog w = .ok (.value (.int .u64 y)) w := by
  rw [run_callFunc_extern Tryd.func152 (by kernel_rfl) (by kernel_rfl) (by kernel_rfl) (e := Extern.MathFloatBits.float64bits) (by kernel_rfl)]
  rfl
set_option maxRecDepth 100000 in
theorem real_8 (A : Option Addr) (c : Nat) (zs : List Int) (w : World) (hz : Rd w A zs) (hb : Byt zs) (hl : zs.length = 8) :
    Calls Tryd.prog 133 #[.slice A 8 c] w fun e w' => e = .returned (.float .f64 (num zs).toNat) ∧ Below w.heap.size w w' := by
  have HNB := Aside0.mk (number_any A c zs w hz hb (by omega))
  have h0 := num_nonneg hb
  have h1 := num_lt hb
  rw [hl] at h1 HNB
  generalize num zs = y at h0 h1 HNB ⊢
  have f1 := frombits64 y
  have f2 := frombits32 y
  go_enter Tryd.func133, Tryd.ntmps133
  go_wp2_with (go_at_call 130; refine HNB.out.mono ?_; rintro e w1 ⟨rfl, hb⟩; have HB := Aside0.mk hb; clear hb)
  go_ret
  exact ⟨rfl, HB.out⟩
theorem wide_bits {y : Nat} (h : (FloatKind.f32.decode y).isNaN = false) : floatToFloatBits .f32 y .f64 = some (wideF y) ∧ wideF y < 18446744073709551616 := by
  unfold floatToFloatBits wideF
  rw [if_neg (by decide)]
  cases hd : FloatKind.f32.decode y with
  | nan s f => rw [hd] at h; cases h
  | infinity s => exact ⟨rfl, (double_inf s).2⟩
  | number s m e =>
    obtain ⟨h1, h2, h3⟩ := single_number (show Ieee.single.read y = .number s m e from hd)
    by_cases hm : m = 0
    · subst hm
      obtain ⟨h4, h5⟩ := double_zero s e
      refine ⟨?_, h5⟩
      have h6 : FloatKind.f64.decode (FloatKind.f64.encode (.number s 0 e)) = .number s 0 (-1074) := h4
      simp only [h6]
      rfl
    · obtain ⟨h4, h5⟩ := double_number s m e (by omega) h1 ⟨h2, h3⟩
      refine ⟨?_, h5⟩
      have h6 : FloatKind.f64.decode (FloatKind.f64.encode (.number s m e)) = _ := h4
      simp only [h6]
      rfl
set_option maxRecDepth 100000 in
theorem conv_num {y : Nat} (h : (FloatKind.f32.decode y).isNaN = false) (w : World) : (convert 217 207 (.float .f32 y)).run Tryd.prog w = .ok (.float .f64 (wideF y)) w :=
  run_convert_float_float _ _ _ _ _ _ _ (by kernel_rfl) Tryd.underlying207 (wide_bits h).1
theorem nan_order {X : Nat} (h1 : 9218868437227405312 < X % 9223372036854775808) (Y : Nat) : ordF X Y = none ∧ ordF Y X = none := by
  have h : ∃ s f, Ieee.double.read X = .nan s f := by
    have bin : Ieee.double.binade = 4503599627370496 := by decide +kernel
    have inf : Ieee.double.infRung = 9218868437227405312 := by decide +kernel
    have sw : Ieee.double.signWeight = 9223372036854775808 := by decide +kernel
    unfold Ieee.Format.read
    rw [sw, bin, inf, if_neg (by omega), if_neg (by omega), if_neg (by omega)]
    exact ⟨_, _, rfl⟩
  obtain ⟨s, f, h⟩ := h
  constructor
  · show (Ieee.double.read X).order (Ieee.double.read Y) = none
    rw [h]
    rfl
  · show (Ieee.double.read Y).order (Ieee.double.read X) = none
    rw [h]
    cases Ieee.double.read Y <;> rfl
theorem conv_nan {y : Nat} (h : (FloatKind.f32.decode y).isNaN = true) : ∃ F : World → Nat, (∀ w, (convert 217 207 (.float .f32 y)).run Tryd.prog w = .ok (.float .f64 (F w)) w.drew) ∧ ∀ w X, ordF (F w) X = none ∧ ordF X (F w) = none := by
  refine ⟨fun w => Question.cut (.nanConv .f64 y) (w.tape w.drawn (.nanConv .f64 y)), fun w => ?_, fun w X => nan_order ?_ X⟩
  · cases hd : FloatKind.f32.decode y with
    | number s m e => rw [hd] at h; cases h
    | infinity s => rw [hd] at h; cases h
    | nan s f =>
      have hu : Tryd.prog.underlying 217 = some (.float .f32) := Tryd.underlying217
      simp [convert, run_underlying hu, run_underlying Tryd.underlying207, Conv.floatToFloat, hd, Question.forced, Result.andThen]
  · show 9218868437227405312 < Question.cut (.nanConv .f64 y) (w.tape w.drawn (.nanConv .f64 y)) % 9223372036854775808
    generalize w.tape w.drawn (.nanConv .f64 y) = t
    have e : Question.cut (.nanConv .f64 y) t = (t % 2) * 9223372036854775808 + (9218868437227405312 + 1 + (t / 2) % 4503599627370495) := by
      show (t % 2) * 9223372036854775808 + 9218868437227405312 + 1 + (t / 2) % 4503599627370495 = _
      omega
    rw [e, Nat.mul_add_mod_self_right]
    omega
set_option maxRecDepth 100000 in
theorem real_4 (A : Option Addr) (c : Nat) (zs : List Int) (w : World) (hz : Rd w A zs) (hb : Byt zs) (hl : zs.length = 4) (hn : ¬ nanF zs) :
    Calls Tryd.prog 133 #[.slice A 4 c] w fun e w' => e = .returned (.float .f64 (wideF (num zs).toNat)) ∧ Below w.heap.size w w' := by
  have HNB := Aside0.mk (number_any A c zs w hz hb (by omega))
  have h0 := num_nonneg hb
  have h1 := num_lt hb
  unfold nanF at hn
  rw [if_pos hl, Bool.not_eq_true] at hn
  rw [hl] at h1 HNB
  generalize num zs = y at h0 h1 HNB hn ⊢
  have f2 := frombits32 y
  have f3 := conv_num hn
  simp only [Int.pow_succ, Int.pow_zero] at h1
  go_enter Tryd.func133, Tryd.ntmps133
  go_wp2_with (go_at_call 130; refine HNB.out.mono ?_; rintro e w1 ⟨rfl, hb⟩; have HB := Aside0.mk hb; clear hb)
  go_ret
  exact ⟨rfl, HB.out⟩
set_option maxRecDepth 100000 in
theorem real_n (A : Option Addr) (c : Nat) (zs : List Int) (w : World) (hz : Rd w A zs) (hb : Byt zs) (hl : zs.length = 4) (hn : nanF zs) :
    Calls Tryd.prog 133 #[.slice A 4 c] w fun e w' => ∃ X, e = .returned (.float .f64 X) ∧ (∀ Y, ordF X Y = none ∧ ordF Y X = none) ∧ Below w.heap.size w w' := by
  have HNB := Aside0.mk (number_any A c zs w hz hb (by omega))
  have h0 := num_nonneg hb
  have h1 := num_lt hb
  unfold nanF at hn
  rw [if_pos hl] at hn
  rw [hl] at h1 HNB
  generalize num zs = y at h0 h1 HNB hn ⊢
  have f2 := frombits32 y
  obtain ⟨F, f3, f4⟩ := conv_nan hn
  have F4 := Aside0.mk f4
  clear f4
  simp only [Int.pow_succ, Int.pow_zero] at h1
  go_enter Tryd.func133, Tryd.ntmps133
  go_wp2_with (go_at_call 130; refine HNB.out.mono ?_; rintro e w1 ⟨rfl, hb⟩; have HB := Aside0.mk hb; clear hb)
  go_ret
  exact ⟨_, rfl, F4.out _, HB.out.drew⟩
end Go.Proofs.YtokebpeplopjhaaDoor.Mp
