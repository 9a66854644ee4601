/- compact.value: the number of bytes, the lowest first. -/
import Derived.Test.YteflphhdafhapaaBack
namespace Go.Proofs.Yteflphhdafhapaa.Rng
open Go.RowKit Go.Shelf
attribute [local go_sem] Oper.semAt_some

theorem blk_cell {W : World} {g : Nat} {v : Value} {t : TypeId} (h : W.heap[g]? = some (.cells #[v] t (0, 0))) : W.cell? ⟨g, 0, none⟩ = some v := by simp [World.cell?, h]
theorem blk_free {W : World} {g : Nat} {v : Value} {t : TypeId} (h : W.heap[g]? = some (.cells #[v] t (0, 0))) : W.frozen? ⟨g, 0, none⟩ = false := by simp [World.frozen?, h]
theorem blk_put {W : World} {g : Nat} {v : Value} {t : TypeId} (h : W.heap[g]? = some (.cells #[v] t (0, 0))) (u : Value) : (W.setCell ⟨g, 0, none⟩ u).heap[g]? = some (.cells #[u] t (0, 0)) := by
  simp [World.setCell, Array.getElem?_modify, h]
theorem Fr.blk {M : Nat → Prop} {w W : World} (h : Fr M w W) {g : Nat} {o : Obj} (hb : w.heap[g]? = some o) (hm : ¬ M g) : W.heap[g]? = some o :=
  (h.block g (Array.getElem?_eq_some_iff.1 hb).1 hm).trans hb

set_option maxRecDepth 100000 in
set_option maxHeartbeats 1000000 in
theorem backward (A : Option Addr) (n c : Nat) (w : World) :
    Calls Try.prog 27 #[.slice A n c] w fun e w' => e = .returned (.func (.func 28) #[] #[.pointer (some ⟨w.heap.size, 0, none⟩)]) ∧ w' = w.alloc (.cells #[.slice A n c] 25) := by
  go_enter Try.func27, Try.ntmps27
  go_wp2
  go_ret
  exact ⟨rfl, rfl⟩

/-- What value has when k elements, from the last one on, have come. -/
def stepI (n x : Int) : Int := bits .or .i64 (wrap64 (n * 256)) (wrap64 x)
def accI (zs : List Int) (k : Nat) : Int := (zs.reverse.take k).foldl stepI 0
theorem rev_take_succ (zs : List Int) (k : Nat) (h : k < zs.length) : zs.reverse.take (k + 1) = zs.reverse.take k ++ [zs[zs.length - 1 - k]?.getD 0] := by
  rw [List.take_add_one, List.getElem?_reverse (by omega)]
  simp [List.getElem?_eq_getElem (show zs.length - 1 - k < zs.length by omega)]
theorem accI_succ (zs : List Int) (k : Nat) (h : k < zs.length) : accI zs (k + 1) = stepI (accI zs k) (zs[zs.length - 1 - k]?.getD 0) := by
  rw [accI, rev_take_succ zs k h, List.foldl_append]; rfl

/-- Leaving by the one mark of a range over a function. -/
theorem leave_one {P : Program} {fn : Func} {R : Ending → World → Prop} {tmps : Array Value} {D : Nat} {W : World} {u : FrameMode} (hu : u = .returning)
    (hK : W.heap[D]? = some (.deferred (some []))) {v : Value} (hr : (results fn tmps).run P (W.putObj D (.deferred none)) = .ok v (W.putObj D (.deferred none))) (hR : R (.returned v) (W.putObj D (.deferred none))) :
    LeavesInM Fence.wide 3 P fn tmps R [{ target := .collected D, args := #[] }] u W := by
  subst hu
  exact ⟨by simp, .inl ⟨_, _, rfl, run_takeDeferred hK, ⟨_, hr, hR⟩⟩⟩

set_option maxRecDepth 100000 in
set_option maxHeartbeats 2000000 in
theorem value_any (A : Option Addr) (c : Nat) (zs : List Int) (w : World) (hz : Rd w A zs) (hA : Off (fun k => w.heap.size ≤ k) A zs.length) :
    Calls Try.prog 21 #[.slice A zs.length c] w fun e w' => e = .returned (.int .i64 (accI zs zs.length)) ∧ Below w.heap.size w w' := by
  refine (callsIn_wide (n := 3)).1 ?_
  refine callsIn_of_wp_marks Try.func21 rfl trivial ?_ rfl
  simp only [Try.ntmps21, List.size_toArray, List.length_cons, List.length_nil, Nat.reduceAdd, Nat.reduceSub, Array.replicate_succ, Array.replicate_zero, List.push_toArray, List.append_toArray, List.nil_append, List.cons_append]
  have Hz := Lib.hid hz
  have HA := Lib.hid hA
  clear hz hA
  gi_wp2_with (refine ⟨trivial, ?_⟩; gi_at_call 27; refine (callsIn_wide.2 (backward _ _ _ _)).mono ?_; rintro e w' ⟨rfl, rfl⟩)
  obtain ⟨W0, hW0⟩ : ∃ W0, (w.alloc (.cells #[.int .i64 0] 3)).alloc (.cells #[.slice A zs.length c] 25) = W0 := ⟨_, rfl⟩
  have hs0 : W0.heap.size = w.heap.size + 2 := by rw [← hW0]; simp
  have hb0 : W0.heap[w.heap.size]? = some (.cells #[.int .i64 0] 3 (0, 0)) := by
    rw [← hW0, Below.heap_alloc _ _ _ (by simp)]; exact World.alloc_heap_new w _
  have hb1 : W0.heap[w.heap.size + 1]? = some (.cells #[.slice A zs.length c] 25 (0, 0)) := by
    rw [← hW0]; have := World.alloc_heap_new (w.alloc (.cells #[.int .i64 0] 3)) (.cells #[.slice A zs.length c] 25); rwa [World.size_alloc] at this
  have hf0 : Below w.heap.size w W0 := by rw [← hW0]; exact ((Below.refl _ w).alloc (Nat.le_refl _) _).alloc (by simp) _
  rw [hW0]
  have F0 := Lib.hid hf0
  have B0 := Lib.hid hb0
  have B1 := Lib.hid hb1
  have S0 := Lib.hid hs0
  clear hf0 hb0 hb1 hs0 hW0
  refine wp_range (gf := 28) (lb := #[.pointer (some ⟨w.heap.size + 1, 0, none⟩)]) rfl (enters_of Try.func28 (by kernel_rfl) rfl) zs.length (backs zs) (fun k => k = w.heap.size) (fun _ => False)
    ⟨by have := S0.out; omega, by have := S0.out; omega⟩ ⟨id, id⟩ (by rintro k x W rfl; rfl) ?_
    (fun k W => W.heap[w.heap.size]? = some (.cells #[.int .i64 (accI zs k)] 3 (0, 0)) ∧ Below w.heap.size w W) (fun _ _ _ => False) ?_ (fun _ _ _ _ h _ => h) ⟨by rw [show accI zs 0 = 0 by simp [accI]]; exact B0.out, F0.out⟩ ?_ ?_ (fun _ _ _ _ _ h => h.elim)
  · intro o
    have hs := S0.out
    refine back_seq (w.heap.size + 1) c A zs _ _ ?_ (by omega) ?_ ?_
    · exact ((Fr.alloc (fun _ => False) W0 _).trans (Fr.alloc _ _ _)).cell (blk_cell B1.out) id
    · exact (Hz.out.fr (Fr.of_below (M := fun _ => False) F0.out) (fun _ _ _ => id)).fr ((Fr.alloc (fun _ => False) W0 _).trans (Fr.alloc _ _ _)) (fun _ _ _ => id)
    · intro ad e hn h
      have := HA.out ad e hn
      omega
  · rintro k X Y ⟨h1, h2⟩ hf
    have hs := S0.out
    exact ⟨hf.blk h1 (by rintro (h | h | h) <;> omega), h2.trans (hf.below (B := w.heap.size) (fun j hj => ⟨by have := h2.size; omega, by rintro (h | h | h) <;> omega⟩))⟩
  · intro l k args W hkl hk hsz hI
    obtain rfl := hk
    obtain ⟨x, hx⟩ : ∃ x, zs[zs.length - 1 - k]?.getD 0 = x := ⟨_, rfl⟩
    rw [hx]
    have HX := Lib.hid hx
    obtain ⟨hb, hf⟩ := hI
    have HF := Lib.hid hf
    have HB := Lib.hid hb
    clear hx hb hf
    gi_wp2
    refine ⟨Fr.refl _ _, ?_⟩
    intro W2 hf2
    have hb2 := hf2.blk HB.out (by have := S0.out; omega)
    have hc2 := blk_cell hb2
    have hz2 := blk_free hb2
    have HB2 := Lib.hid hb2
    have HF2 := Lib.hid hf2
    clear hb2 hf2
    gi_wp2
    refine ⟨Fr.setCell _ _ _ (.inl rfl), ?_, ?_⟩
    · rw [accI_succ zs k hkl, HX.out]
      exact blk_put HB2.out _
    · have hs := S0.out
      exact (HF.out.trans (HF2.out.below (B := w.heap.size) (fun j hj => ⟨by omega, by omega⟩))).setCell (p := ⟨w.heap.size, 0, none⟩) (Nat.le_refl _) _
  · intro W hsz hI hK
    obtain ⟨hb, hf⟩ := hI
    have hc := blk_cell hb
    have HK := Lib.hid hK
    have HF := Lib.hid hf
    clear hb hf hK
    gi_wp2
    have hs := S0.out
    refine leave_one rfl HK.out (results_tmp rfl _ _ _) ⟨rfl, ?_⟩
    exact HF.out.trans ((Fr.putObj (M := fun j => j = W0.heap.size) W _ _ (.inl rfl)).below (B := w.heap.size) (fun j hj => ⟨by omega, by omega⟩))
end Go.Proofs.Yteflphhdafhapaa.Rng
