/- types.number: the number of bytes, the lowest first. -/
import Derived.Test.YtcgcghldgomelaaGreatDoorBack
import Derived.Test.YtcgcghldgomelaaGreatDoorTbl
import Derived.Laws.Bits64b
namespace Go.Proofs.YtcgcghldgomelaaGreatDoor.Num
open Go.RowKit Go.Shelf Go.Proofs.YtcgcghldgomelaaGreatDoor.Rng Go.Proofs.YtcgcghldgomelaaGreatDoor.Mp
attribute [local go_sem] Oper.semAt_some

theorem blk_cell {W : World} {g : Nat} {v : Value} {t : TypeId} (h : W.heap[g]? = some (.cells #[v] t (0, 0))) : W.cell? ⟨g, 0, none⟩ = some v := by simp [World.cell?, h]
theorem blk_free {W : World} {g : Nat} {v : Value} {t : TypeId} (h : W.heap[g]? = some (.cells #[v] t (0, 0))) : W.frozen? ⟨g, 0, none⟩ = false := by simp [World.frozen?, h]
theorem blk_put {W : World} {g : Nat} {v : Value} {t : TypeId} (h : W.heap[g]? = some (.cells #[v] t (0, 0))) (u : Value) : (W.setCell ⟨g, 0, none⟩ u).heap[g]? = some (.cells #[u] t (0, 0)) := by
  simp [World.setCell, Array.getElem?_modify, h]
theorem _root_.Go.Proofs.YtcgcghldgomelaaGreatDoor.Rng.Fr.blk {M : Nat → Prop} {w W : World} (h : Fr M w W) {g : Nat} {o : Obj} (hb : w.heap[g]? = some o) (hm : ¬ M g) : W.heap[g]? = some o :=
  (h.block g (Array.getElem?_eq_some_iff.1 hb).1 hm).trans hb

def stepU (n x : Int) : Int := bits .or .u64 (IntKind.u64.wrap (n * 256)) (IntKind.u64.wrap x)
theorem u64_in {x : Int} (h0 : 0 ≤ x) (h1 : x < 18446744073709551616) : IntKind.u64.wrap x = x := by
  show x % 18446744073709551616 = x
  omega
theorem or_join (a b : Nat) (hb : b < 256) : (256 * a) ||| b = 256 * a + b := by
  have := Nat.two_pow_add_eq_or_of_lt (i := 8) hb a
  simpa using this.symm
theorem stepU_val (n x : Int) (h0 : 0 ≤ n) (h1 : n < 72057594037927936) (h2 : 0 ≤ x) (h3 : x < 256) : stepU n x = x + 256 * n := by
  unfold stepU
  rw [u64_in (by omega) (by omega), u64_in h2 (by omega)]
  obtain ⟨a, rfl⟩ := Int.eq_ofNat_of_zero_le h0
  obtain ⟨b, rfl⟩ := Int.eq_ofNat_of_zero_le h2
  rw [show (a : Int) * 256 = ((256 * a : Nat) : Int) by omega, bits_or_u64_nat _ _ (by omega) (by omega), or_join _ _ (by omega)]
  omega
theorem pow256 (m : Nat) (h : m ≤ 7) : (256 : Int) ^ m ≤ 72057594037927936 := by
  match m, h with
  | 0, _ => decide
  | 1, _ => decide
  | 2, _ => decide
  | 3, _ => decide
  | 4, _ => decide
  | 5, _ => decide
  | 6, _ => decide
  | 7, _ => decide
theorem stepU_num (zs : List Int) (hb : Byt zs) (hl : zs.length ≤ 8) (k : Nat) (hk : k < zs.length) : stepU (num (zs.drop (zs.length - k))) (zs[zs.length - 1 - k]?.getD 0) = num (zs.drop (zs.length - (k + 1))) := by
  have e : zs.drop (zs.length - (k + 1)) = (zs[zs.length - 1 - k]?.getD 0) :: zs.drop (zs.length - k) := by
    rw [show zs.length - (k + 1) = zs.length - 1 - k by omega, List.drop_eq_getElem_cons (by omega), List.getElem?_eq_getElem (by omega), Option.getD_some, show zs.length - 1 - k + 1 = zs.length - k by omega]
  have hd : Byt (zs.drop (zs.length - k)) := fun x hx => hb x (List.mem_of_mem_drop hx)
  have hx : 0 ≤ zs[zs.length - 1 - k]?.getD 0 ∧ zs[zs.length - 1 - k]?.getD 0 < 256 := by
    rw [List.getElem?_eq_getElem (by omega)]
    exact hb _ (List.getElem_mem _)
  have h1 := num_lt hd
  have h2 := pow256 (zs.drop (zs.length - k)).length (by simp; omega)
  rw [stepU_val _ _ (num_nonneg hd) (by omega) hx.1 hx.2, e]
  rfl

set_option maxRecDepth 100000 in
set_option maxHeartbeats 1000000 in
theorem backward (A : Option Addr) (n c : Nat) (w : World) :
    Calls Tryz.prog 76 #[.slice A n c] w fun e w' => e = .returned (.func (.func 109) #[] #[.pointer (some ⟨w.heap.size, 0, none⟩)]) ∧ w' = w.alloc (.cells #[.slice A n c] 22) := by
  go_enter Tryz.func76, Tryz.ntmps76
  go_wp2
  go_ret
  exact ⟨rfl, rfl⟩

/-- Leaving by the one mark of a range over a function. -/
theorem leave_one {P : Program} {fn : Func} {R : Ending → World → Prop} {tmps : Array Value} {D : Nat} {W : World} {u : FrameMode} (hu : u = .returning)
    (hK : W.heap[D]? = some (.deferred (some []))) {v : Value} (hr : (results fn tmps).run P (W.putObj D (.deferred none)) = .ok v (W.putObj D (.deferred none))) (hR : R (.returned v) (W.putObj D (.deferred none))) :
    LeavesInM Fence.wide 3 P fn tmps R [{ target := .collected D, args := #[] }] u W := by
  subst hu
  exact ⟨by simp, .inl ⟨_, _, rfl, run_takeDeferred hK, ⟨_, hr, hR⟩⟩⟩

set_option maxRecDepth 100000 in
set_option maxHeartbeats 2000000 in
theorem number_any (A : Option Addr) (c : Nat) (zs : List Int) (w : World) (hz : Rd w A zs) (hb : Byt zs) (hl : zs.length ≤ 8) :
    Calls Tryz.prog 49 #[.slice A zs.length c] w fun e w' => e = .returned (.int .u64 (num zs)) ∧ Below w.heap.size w w' := by
  refine (callsIn_wide (n := 3)).1 ?_
  refine callsIn_of_wp_marks Tryz.func49 rfl trivial ?_ rfl
  simp only [Tryz.ntmps49, List.size_toArray, List.length_cons, List.length_nil, Nat.reduceAdd, Nat.reduceSub, Array.replicate_succ, Array.replicate_zero, List.push_toArray, List.append_toArray, List.nil_append, List.cons_append]
  have Hz := Lib.hid hz
  have HA := Lib.hid hz.off
  have HY := Lib.hid hb
  have HL := Lib.hid hl
  clear hz hb hl
  gi_wp2_with (refine ⟨trivial, ?_⟩; gi_at_call 76; refine (callsIn_wide.2 (backward _ _ _ _)).mono ?_; rintro e w' ⟨rfl, rfl⟩)
  obtain ⟨W0, hW0⟩ : ∃ W0, (w.alloc (.cells #[.int .u64 0] 40)).alloc (.cells #[.slice A zs.length c] 22) = W0 := ⟨_, rfl⟩
  have hs0 : W0.heap.size = w.heap.size + 2 := by rw [← hW0]; simp
  have hb0 : W0.heap[w.heap.size]? = some (.cells #[.int .u64 0] 40 (0, 0)) := by
    rw [← hW0, Below.heap_alloc _ _ _ (by simp)]; exact World.alloc_heap_new w _
  have hb1 : W0.heap[w.heap.size + 1]? = some (.cells #[.slice A zs.length c] 22 (0, 0)) := by
    rw [← hW0]; have := World.alloc_heap_new (w.alloc (.cells #[.int .u64 0] 40)) (.cells #[.slice A zs.length c] 22); rwa [World.size_alloc] at this
  have hf0 : Below w.heap.size w W0 := by rw [← hW0]; exact ((Below.refl _ w).alloc (Nat.le_refl _) _).alloc (by simp) _
  rw [hW0]
  have F0 := Lib.hid hf0
  have B0 := Lib.hid hb0
  have B1 := Lib.hid hb1
  have S0 := Lib.hid hs0
  clear hf0 hb0 hb1 hs0 hW0
  refine wp_range (gf := 109) (lb := #[.pointer (some ⟨w.heap.size + 1, 0, none⟩)]) rfl (enters_of Tryz.func109 (by kernel_rfl) rfl) zs.length (backs zs) (fun k => k = w.heap.size) (fun _ => False)
    ⟨by have := S0.out; omega, by have := S0.out; omega⟩ ⟨id, id⟩ (by rintro k x W rfl; rfl) ?_
    (fun k W => W.heap[w.heap.size]? = some (.cells #[.int .u64 (num (zs.drop (zs.length - k)))] 40 (0, 0)) ∧ Below w.heap.size w W) (fun _ _ _ => False) ?_ (fun _ _ _ _ h _ => h) ⟨by rw [show num (zs.drop (zs.length - 0)) = 0 by simp [num]]; exact B0.out, F0.out⟩ ?_ ?_ (fun _ _ _ _ _ h => h.elim)
  · intro o
    have hs := S0.out
    refine back_seq (w.heap.size + 1) c A zs _ _ ?_ (by omega) ?_ ?_
    · exact ((Fr.alloc (fun _ => False) W0 _).trans (Fr.alloc _ _ _)).cell (blk_cell B1.out) id
    · exact (Hz.out.fr (Fr.of_below (M := fun _ => False) F0.out) (fun _ _ _ => id)).fr ((Fr.alloc (fun _ => False) W0 _).trans (Fr.alloc _ _ _)) (fun _ _ _ => id)
    · intro ad e hn h
      have := HA.out ad e hn
      omega
  · rintro k X Y ⟨h1, h2⟩ hf
    have hs := S0.out
    exact ⟨hf.blk h1 (by rintro (h | h | h) <;> omega), h2.trans (hf.below (B := w.heap.size) (fun j hj => ⟨by have := h2.size; omega, by rintro (h | h | h) <;> omega⟩))⟩
  · intro l k args W hkl hk hsz hI
    obtain rfl := hk
    obtain ⟨x, hx⟩ : ∃ x, zs[zs.length - 1 - k]?.getD 0 = x := ⟨_, rfl⟩
    rw [hx]
    have HX := Lib.hid hx
    obtain ⟨hb, hf⟩ := hI
    have HF := Lib.hid hf
    have HB := Lib.hid hb
    clear hx hb hf
    gi_wp2
    refine ⟨Fr.refl _ _, ?_⟩
    intro W2 hf2
    have hb2 := hf2.blk HB.out (by have := S0.out; omega)
    have hc2 := blk_cell hb2
    have hz2 := blk_free hb2
    have HB2 := Lib.hid hb2
    have HF2 := Lib.hid hf2
    clear hb2 hf2
    gi_wp2
    refine ⟨Fr.setCell _ _ _ (.inl rfl), ?_, ?_⟩
    · have hsn := stepU_num zs HY.out HL.out k hkl
      rw [HX.out] at hsn
      rw [← hsn]
      exact blk_put HB2.out _
    · have hs := S0.out
      exact (HF.out.trans (HF2.out.below (B := w.heap.size) (fun j hj => ⟨by omega, by omega⟩))).setCell (p := ⟨w.heap.size, 0, none⟩) (Nat.le_refl _) _
  · intro W hsz hI hK
    obtain ⟨hb, hf⟩ := hI
    have hc := blk_cell hb
    rw [Nat.sub_self, List.drop_zero] at hc
    have HK := Lib.hid hK
    have HF := Lib.hid hf
    clear hb hf hK
    gi_wp2
    have hs := S0.out
    refine leave_one rfl HK.out (results_tmp rfl _ _ _) ⟨rfl, ?_⟩
    exact HF.out.trans ((Fr.putObj (M := fun j => j = W0.heap.size) W _ _ (.inl rfl)).below (B := w.heap.size) (fun j hj => ⟨by omega, by omega⟩))
end Go.Proofs.YtcgcghldgomelaaGreatDoor.Num
