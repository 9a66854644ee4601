/- The law's example of types works. -/
import Derived.Test.YtcgcghldgomelaaGreatDoorYc
import Derived.Test.YtcgcghldgomelaaGreatDoorTch
import Derived.Defers
import Derived.Recover
set_option linter.unusedSimpArgs false
namespace Go.Proofs.YtcgcghldgomelaaGreatDoor.Mp
open Go.RowKit Go.Shelf Go.Proofs.YtcgcghldgomelaaGreatDoor.Rng Go.Proofs.YtcgcghldgomelaaGreatDoorW.PrintWords Go.Proofs.YtcgcghldgomelaaGreatDoorW.PrintMore Go.Proofs.YtcgcghldgomelaaGreatDoorW.PrintLast

set_option maxRecDepth 100000 in
theorem value_idle (p q : Addr) (w : World) :
    CallsD Tryz.prog 62 #[.pointer (some p), .pointer (some q)] .returning w fun e u' w' => e = .returned (.tuple #[]) ∧ u' = .returning ∧ w' = w := by
  refine callsD_of_wpS Tryz.func62 rfl fun c₀ cs hu => ?_
  apply wpS_seq
  apply wpS_region
  simp [wpOpsS, go_sem, recoverD, hu, Tryz.ntmps62, Exit.thenS]
  apply wpS_seq
  apply wpS_region
  simp [wpOpsS, go_sem, recoverD, hu, Tryz.ntmps62, Exit.thenS]
  refine wpS_cond (t := false) (by simp [Act.eval, Array.replicate]) ?_
  simp only [Bool.false_eq_true, if_false]
  refine wpS_of_wp (wp_skip ?_)
  cases c₀
  simp_all [bodyPostS, results, Tryz.results62]
set_option maxRecDepth 100000 in
set_option maxHeartbeats 4000000 in
theorem value_15 (w : World) (h : Tabs w) (ht : Tbl w) : Calls Tryz.prog 22 #[.int .u8 8, .string ⟨#[51, 112, 45, 49]⟩] w fun e w' => ∃ g, e = .returned (.tuple #[.slice (some ⟨g, 0, none⟩) 4 4, .int .i64 0]) ∧ w.heap.size ≤ g ∧ w'.heap[g]? = some (.cells #[.int .u8 0, .int .u8 0, .int .u8 192, .int .u8 63] 5 (0, 0)) ∧ Below w.heap.size w w' := by
  have HT := Aside0.mk h
  have hb2 : Below w.heap.size w ((w.alloc (.cells #[.slice none 0 0] 22)).alloc (.cells #[.int .i64 0] 32)) := (below_alloc (Below.refl _ _) _).alloc (by simp) _
  obtain ⟨bm, hc, hl⟩ := (ht.below hb2).at_ (t := 8) (by decide)
  rw [show knd 8 = 4 from rfl, show siz 8 = 4 from rfl] at hl
  have HB2 := Aside0.mk hb2
  clear hb2
  have hmf : ∀ (fn : Fn) (first cap : Array Value) (w : World), (Instr.makeFunc fn first cap).run Tryz.prog w = .ok (.func fn first cap) w := fun _ _ _ _ => rfl
  clear h ht
  go_enter_defers Tryz.func22, Tryz.ntmps22
  have n1 : (w.alloc (.cells #[.slice none 0 0] 22)).heap.size = w.heap.size + 1 := by simp
  have B0 := Aside0.mk (blk_alloc (blk_alloc (blk_new w (.cells #[.slice none 0 0] 22)) (.cells #[.int .i64 0] 32)) (.cells #[.int .u8 4, .int .i64 4] 60))
  have b1 := blk_alloc (blk_new (w.alloc (.cells #[.slice none 0 0] 22)) (.cells #[.int .i64 0] 32)) (.cells #[.int .u8 4, .int .i64 4] 60)
  rw [n1] at b1
  have B1 := Aside0.mk b1
  have HB3 := Aside0.mk (HB2.out.trans ((below_alloc (Below.refl _ _) (.cells #[.int .u8 4, .int .i64 4] 60)).mono HB2.out.size))
  clear b1 n1
  go_wp2_with (first
    | (go_at_call 65; go_loud (refine (readreal _ (HT.out.below HB3.out)).mono ?_; rintro e w3 ⟨g, rfl, h1, h2, h3⟩; have H := Aside0.mk (And.intro (Nat.le_trans HB3.out.size h1) (And.intro h2 (HB3.out.trans (h3.mono HB3.out.size)))); have HG := Aside0.mk (show w.heap.size + 1 < g by simp at h1; omega); have p0 := blk_below B0.out h3; have p1 := blk_below B1.out h3; have y0 := Go.Proofs.YtcgcghldgomelaaGreatDoorW.PrintWords.blk_cell p0 0; have f0 := Go.Proofs.YtcgcghldgomelaaGreatDoorW.PrintWords.blk_frozen p0 0; have y1 := Go.Proofs.YtcgcghldgomelaaGreatDoorW.PrintWords.blk_cell p1 0; have f1 := Go.Proofs.YtcgcghldgomelaaGreatDoorW.PrintWords.blk_frozen p1 0; clear h1 h2 h3 p0 p1))
    | (go_at_call 63; refine (must_ok _).mono ?_; rintro e w2 ⟨rfl, hw⟩; have hw := hw.symm; subst hw))
  refine leaves_cons (f := 62) (args := #[.pointer (some ⟨w.heap.size, 0, none⟩), .pointer (some ⟨w.heap.size + 1, 0, none⟩)]) (by simp) (by simp [go_sem]) ?_
  refine (value_idle ⟨w.heap.size, 0, none⟩ ⟨w.heap.size + 1, 0, none⟩ _).mono ?_
  rintro e u' w'' ⟨rfl, rfl, rfl⟩
  have hb : Below w.heap.size w (((w3.setCell ⟨w.heap.size, 0, none⟩ (.slice (some ⟨g, 0, none⟩) 4 4)).setCell ⟨w.heap.size, 0, none⟩ (.slice (some ⟨g, 0, none⟩) 4 4)).setCell ⟨w.heap.size + 1, 0, none⟩ (.int .i64 0)) := ((H.out.2.2.setCell (Nat.le_refl _) _).setCell (Nat.le_refl _) _).setCell (Nat.le_succ _) _
  have hg : (((w3.setCell ⟨w.heap.size, 0, none⟩ (.slice (some ⟨g, 0, none⟩) 4 4)).setCell ⟨w.heap.size, 0, none⟩ (.slice (some ⟨g, 0, none⟩) 4 4)).setCell ⟨w.heap.size + 1, 0, none⟩ (.int .i64 0)).heap[g]? = some (.cells #[.int .u8 0, .int .u8 0, .int .u8 192, .int .u8 63] 5 (0, 0)) := by
    have hne := HG.out
    rw [Below.heap_setCell _ _ _ _ (by simp; omega), Below.heap_setCell _ _ _ _ (by simp; omega), Below.heap_setCell _ _ _ _ (by simp; omega)]
    exact H.out.2.1
  have z0 : (((w3.setCell ⟨w.heap.size, 0, none⟩ (.slice (some ⟨g, 0, none⟩) 4 4)).setCell ⟨w.heap.size, 0, none⟩ (.slice (some ⟨g, 0, none⟩) 4 4)).setCell ⟨w.heap.size + 1, 0, none⟩ (.int .i64 0)).cell? ⟨w.heap.size, 0, none⟩ = some (.slice (some ⟨g, 0, none⟩) 4 4) := by
    rw [World.cell?_setCell_other _ _ _ _ (by simp)]
    exact World.cell?_setCell_same _ _ _ (World.cell?_setCell_same _ _ _ y0)
  have z1 : (((w3.setCell ⟨w.heap.size, 0, none⟩ (.slice (some ⟨g, 0, none⟩) 4 4)).setCell ⟨w.heap.size, 0, none⟩ (.slice (some ⟨g, 0, none⟩) 4 4)).setCell ⟨w.heap.size + 1, 0, none⟩ (.int .i64 0)).cell? ⟨w.heap.size + 1, 0, none⟩ = some (.int .i64 0) := by
    refine World.cell?_setCell_same _ _ _ (u := .int .i64 0) ?_
    rw [World.cell?_setCell_other _ _ _ _ (by simp), World.cell?_setCell_other _ _ _ _ (by simp)]
    exact y1
  have HF := Aside0.mk (And.intro H.out.1 (And.intro hg hb))
  clear hg hb y0 y1 f0 f1
  generalize (((w3.setCell ⟨w.heap.size, 0, none⟩ (.slice (some ⟨g, 0, none⟩) 4 4)).setCell ⟨w.heap.size, 0, none⟩ (.slice (some ⟨g, 0, none⟩) 4 4)).setCell ⟨w.heap.size + 1, 0, none⟩ (.int .i64 0)) = wf at z0 z1 HF ⊢
  simp [Leaves, settle, results, Tryz.results22, go_sem, z0, z1]
  exact HF.out
theorem str_ok (A : Option Addr) (c n : Nat) (zs : List Int) (s : ByteArray) (W : World) (h : Rd W A zs) (hn : zs.length = n) (hs : strOfNums zs = s) (X : World) (hX : Below W.heap.size W X) : (convert 22 9 (.slice A n c)).run Tryz.prog X = .ok (.string s) X := str_rd (h.below hX) n c hn s hs
theorem rd_4 {w : World} {g : Nat} {a b c d : Int} (h : w.heap[g]? = some (.cells #[.int .u8 a, .int .u8 b, .int .u8 c, .int .u8 d] 5 (0, 0))) : Rd w (some ⟨g, 0, none⟩) [a, b, c, d] := by
  have hc := Go.Proofs.YtcgcghldgomelaaGreatDoorW.PrintWords.blk_cell h
  refine ⟨by simp, fun _ => ⟨⟨g, 0, none⟩, rfl, fun j hj => ?_⟩⟩
  match j, hj with
  | 0, _ => exact hc 0
  | 1, _ => exact hc 1
  | 2, _ => exact hc 2
  | 3, _ => exact hc 3
  | j + 4, hj => simp at hj; omega
theorem cmp_ex : cmpC 8 [0, 0, 0, 128] [0, 0, 0, 0] = (-1, true) := by decide +kernel
theorem chk_ex : chkC 1 [2] [] [] = 0x06090030 := by decide +kernel
end Go.Proofs.YtcgcghldgomelaaGreatDoor.Mp
