/- mapping.Pack. dict.New of any row; mapping.Pack of what may not be packed. What is packed, plainly: lengths, bits; gaps; there and back. mapping.Of and Number. The law's entries. -/
import Derived.Test.YtokebpeplopjhaaDoorY9
import Derived.Test.YtokebpeplopjhaaDoorY10
import Derived.Test.YtokebpeplopjhaaDoorY7
import Derived.Test.YtokebpeplopjhaaDoorY11
import Derived.Shelf.Spec.TrailingZeros
import Derived.Laws.Bits64b
namespace Go.Proofs.YtokebpeplopjhaaDoor.Num
open Go.RowKit Go.Shelf Go.Proofs.YtokebpeplopjhaaDoor.Rng Go.Proofs.YtokebpeplopjhaaDoor.Mp Go.Proofs.YtokebpeplopjhaaDoorW.PrintWords Go.Proofs.YtokebpeplopjhaaDoorW.PrintMore Go.Proofs.YtokebpeplopjhaaDoorW.PrintLast
attribute [local go_sem] Oper.semAt_some

/-- The marks that ranges over functions leave in a frame. -/
def markOf (D : Nat) : Deferred := { target := .collected D, args := #[] }
def Marks (Ds : List Nat) (W : World) : Prop := (∀ D ∈ Ds, W.heap[D]? = some (.deferred (some []))) ∧ Ds.Pairwise (fun a b => a ≠ b)
theorem leave_many {P : Program} {fn : Func} {R : Ending → World → Prop} {tmps : Array Value} : ∀ (Ds : List Nat) (W : World) (u : FrameMode), u = .returning → Marks Ds W →
    (∀ W', Fr (fun k => k ∈ Ds) W W' → ∃ v, (results fn tmps).run P W' = .ok v W' ∧ R (.returned v) W') → LeavesInM Fence.wide 3 P fn tmps R (Ds.map markOf) u W
  | [], W, u, hu, _, hR => by
    subst hu
    obtain ⟨v, hr, h⟩ := hR W (Fr.refl _ _)
    exact ⟨_, hr, h⟩
  | D :: r, W, u, hu, hm, hR => by
    subst hu
    have hK := hm.1 D (by simp)
    have hp := List.pairwise_cons.1 hm.2
    have hD : D < W.heap.size := (Array.getElem?_eq_some_iff.1 hK).1
    refine ⟨by simp, .inl ⟨D, W.putObj D (.deferred none), rfl, run_takeDeferred hK, ?_⟩⟩
    refine leave_many r _ _ rfl ⟨fun D' hD' => ?_, hp.2⟩ (fun W' hf => hR W' ?_)
    · exact (World.putObj_heap_other (fun e => hp.1 D' hD' e.symm)).trans (hm.1 D' (by simp [hD']))
    · exact (Fr.putObj (M := fun k => k ∈ D :: r) W D _ (.inl (by simp))).trans (hf.mono (fun k hk => by simp [hk]))
theorem bits_stC (o : Option DD) (l : List Mp) : Bits (stC o l) := by
  intro y hy
  unfold stC at hy
  obtain ⟨m, _, hy⟩ := List.mem_flatMap.1 hy
  exact bits_bitsL _ _ _ y hy
/-- Get, and where what it tells lies. -/
def GetR (w : World) (r : It × Int) (e : Ending) (w' : World) : Prop := ∃ v, e = .returned (.tuple #[v, .bool (r.2 == 0)]) ∧ ArgV w' v r.1.val ∧ (∀ k, v.ownBlock = some k → w.heap.size ≤ k) ∧ Below w.heap.size w w'
set_option maxRecDepth 100000 in
set_option maxHeartbeats 1000000 in
theorem get_anyR (B : Nat) (v : Value) (o : Option DD) (i s : Int) (hi : 0 ≤ i ∧ i < 65536) (hs : 0 ≤ s ∧ s < 256) (w : World) (h : DictV B w v o) :
    Calls Tryd.prog 25 #[v, pl i s] w (GetR w (findC o i s)) := by
  have hb0 : Below w.heap.size w (w.alloc (.cells #[.int .u16 i, .int .u8 s] 33)) := below_alloc (Below.refl _ _) _
  have HF := Aside0.mk (find_any B v o i s hi hs _ (h.below hb0))
  generalize findC o i s = r at HF ⊢
  obtain ⟨x, n⟩ := r
  clear h
  go_enter Tryd.func25, Tryd.ntmps25
  go_wp2_with (first
    | (go_at_call 76; refine HF.out.mono ?_; rintro e w1 ⟨v0, rfl, hv, hb⟩; have HV := Aside0.mk hv; have HB := Aside0.mk hb; clear hb HF; obtain ⟨v1, v2, v3, v4, rfl, ⟨A1, a1, rfl, -⟩, ⟨A2, a2, rfl, -⟩, ⟨A3, a3, rfl, -⟩, ⟨A4, a4, rfl, hq⟩⟩ := hv; have HQ := Aside0.mk hq; clear hq)
    | (go_at_call 77; refine (clone_arg _ _ _ _ (ArgV.below (w := w1) ⟨_, _, rfl, HQ.out⟩ (below_alloc (Below.refl _ _) _))).mono ?_; rintro e w2 ⟨v5, rfl, hR, hA, hb2⟩; have HR := Aside0.mk hR; have HA := Aside0.mk hA; have HB2 := Aside0.mk hb2; clear hR hA hb2))
  go_ret2
  refine ⟨v5, rfl, HA.out, fun k hk => ?_, hb0.trans ((HB.out.mono (by simp)).trans ((below_step (below_alloc (Below.refl _ _) _) HB2.out).mono (Nat.le_trans (by simp) HB.out.size)))⟩
  have h1 := ((Kd.R_bound HR.out).1 k hk).2.1
  have h2 := HB.out.size
  have h3 := hb0.size
  simp at h1 h2 h3
  omega
set_option maxRecDepth 100000 in
set_option maxHeartbeats 4000000 in
theorem pack_any (B : Nat) (v : Value) (o : Option DD) (l : List Mp) (A : Option Addr) (c : Nat) (w : World) (h : DictV B w v o) (ht : Tbl w) (hm : MsAt w A l) (hl : l.length ≤ 1000000) (hmw : ∀ m ∈ l, m.Wf) (hwf : ∀ i s, (findC o i s).1.Wf) (h0 : checkC o l true = 0) (hv : ∀ m ∈ l, m.bits.toNat ≤ 8 * (valC o m).length) :
    Calls Tryd.prog 22 #[v, .slice A l.length c] w fun e w' => ∃ g, e = .returned (.tuple #[.slice (some ⟨g, 0, none⟩) (sizeC l) (sizeC l), .int .u32 0]) ∧ w.heap.size ≤ g ∧ RowB w' g (packC o l) ∧ Below w.heap.size w w' := by
  refine (callsIn_wide (n := 3)).1 ?_
  refine callsIn_of_wp_marks Tryd.func22 rfl trivial ?_ rfl
  simp only [Tryd.ntmps22, List.size_toArray, List.length_cons, List.length_nil, Nat.reduceAdd, Nat.reduceSub, Array.replicate_succ, Array.replicate_zero, List.push_toArray, List.append_toArray, List.nil_append, List.cons_append]
  have hall : (∀ m ∈ l, oneC o true m = 0) ∧ sumC l ≤ 64 := by
    unfold checkC at h0
    split at h0
    · simp at h0
    · exact check_all (by omega) h0
  have hbpos : ∀ m ∈ l, 0 ≤ m.bits := fun m hm => by have := one_bits (hall.1 m hm); omega
  have HCK := Lib.hid (mcheck_any B v o l A c true w h ht hm hl hmw hwf)
  rw [h0] at HCK
  have HSZ := Lib.hid fun W (hW : Below w.heap.size w W) => msize_any l A c W (hm.below hW) hl hbpos hall.2
  have HD := Lib.hid h
  have HM := Lib.hid hm
  have HMW := Lib.hid hmw
  have HWF := Lib.hid hwf
  have HALL := Lib.hid hall
  have HBP := Lib.hid hbpos
  have HV := Lib.hid hv
  obtain ⟨n, hn⟩ : ∃ n, l.length = n := ⟨_, rfl⟩
  have HN := Lib.hid hn
  obtain ⟨sz, hsz⟩ : ∃ sz, sizeC l = sz := ⟨_, rfl⟩
  have HSZE := Lib.hid hsz
  have hsz9 : sz ≤ 9 := by have := hall.2; unfold sizeC at hsz; omega
  have hmk := fun W => make_u8 sz (by omega) W
  rw [hn] at HCK HSZ hl ⊢
  rw [hsz] at HSZ ⊢
  clear h ht hm hmw hwf hall hbpos hv hn hsz h0
  gi_wp2_with (refine ⟨trivial, ?_⟩; first
    | (gi_at_call 21; refine (callsIn_wide.2 HCK.out).mono ?_; rintro e w1 ⟨rfl, hb1⟩; have HB1 := Lib.hid hb1; clear hb1)
    | (gi_at_call 23; refine (callsIn_wide.2 (HSZ.out _ HB1.out)).mono ?_; rintro e w2 ⟨rfl, hb2⟩; have HB2 := Lib.hid (HB1.out.trans (hb2.mono HB1.out.size)); clear hb2))
  refine wpIn_loop (fun a' w' => ∃ (k p : Nat) (Ds : List Nat) (u10 u11 u12 u27 u28 u29 u30 u31 u32 u33 u34 u35 u36 u37 u38 u39 u40 u58 u59 u60 u61 u62 : Value), k ≤ n ∧ (Below w2.heap.size w2 w' ∧ RowB w' w2.heap.size (pkL (stC o (l.take k)) sz) ∧ w'.heap[w2.heap.size + 1]? = some (.cells #[.slice (some ⟨w2.heap.size, 0, none⟩) sz sz] 34 (0, 0)) ∧ w'.heap[w2.heap.size + 1 + 1]? = some (.cells #[.int .i64 p] 3 (0, 0)) ∧ sumC (l.take k) = p ∧ (stC o (l.take k)).length = p ∧ Marks Ds w' ∧ ∀ D ∈ Ds, w2.heap.size + 3 ≤ D) ∧ a' = { tmps := #[v, .slice A n c, undef, undef, .slice none 0 0, .int .u32 0, .int .u32 0, .pointer (some ⟨w2.heap.size + 1, 0, none⟩), .pointer (some ⟨w2.heap.size + 1 + 1, 0, none⟩), undef, u10, u11, u12, undef, undef, v, .slice A n c, .int .u32 0, .int .u32 0, .bool false, undef, .slice A n c, .int .i64 sz, .slice (some ⟨w2.heap.size, 0, none⟩) sz sz, .slice A n c, .int .i64 n, .int .i64 k, u27, u28, u29, u30, u31, u32, u33, u34, u35, u36, u37, u38, u39, u40, undef, undef, undef, undef, undef, undef, undef, undef, undef, undef, undef, undef, undef, undef, undef, undef, undef, u58, u59, u60, u61, u62, undef], defers := Ds.map markOf }) (fun a' _ => n - (intOf (a'.tmps.getD 26 undef)).toNat) ?_ ?_
  · have hbl : ∀ (X : World) (o : Obj) (k : Nat) (q : Obj), X.heap[k]? = some q → (X.alloc o).heap[k]? = some q := fun X o k q h => (Below.heap_alloc X o k (Array.getElem?_eq_some_iff.1 h).1).trans h
    have hnew : ∀ (X : World) (o : Obj) (k : Nat), X.heap.size = k → (X.alloc o).heap[k]? = some o := fun X o k h => h ▸ World.alloc_heap_new X o
    refine ⟨0, 0, [], _, _, _, _, _, _, _, _, _, _, _, _, _, _, _, _, _, _, _, _, _, _, Nat.zero_le _, ⟨?_, ?_, ?_, ?_, by simp [sumC], by simp [stC], ⟨by simp, by simp⟩, by simp⟩, rfl⟩
    · exact (((Below.refl _ w2).alloc (Nat.le_refl _) _).alloc (by simp) _).alloc (by simp; omega) _
    · rw [show stC o (l.take 0) = [] from rfl, pkL_nil]
      exact hbl _ _ _ _ (hbl _ _ _ _ (rowB_mz w2 sz))
    · exact hbl _ _ _ _ (hnew _ _ _ (by simp))
    · exact hnew _ _ _ (by simp)
  · rintro _ wr ⟨k, p, Ds, u10, u11, u12, u27, u28, u29, u30, u31, u32, u33, u34, u35, u36, u37, u38, u39, u40, u58, u59, u60, u61, u62, hk, hI, rfl⟩
    have HI := Lib.hid hI
    clear hI
    by_cases hlt : k < n
    · obtain ⟨m, hmk⟩ : ∃ m, l[k]? = some m := ⟨_, List.getElem?_eq_getElem (by rw [HN.out]; exact hlt)⟩
      have HW := Lib.hid (HB2.out.trans (HI.out.1.mono HB2.out.size))
      obtain ⟨ad, rfl, y0, y1, y2⟩ := HM.out.below HW.out k m hmk
      have hmem := List.mem_of_getElem? hmk
      obtain ⟨hw1, hw2, hw3⟩ := HMW.out m hmem
      have hbt := one_bits (HALL.out.1 m hmem)
      have hv := HV.out m hmem
      have hst := sumC_take l k m hmk
      have hsl := (sumC_le HBP.out (k + 1)).2
      have hst2 : stC o (l.take (k + 1)) = stC o (l.take k) ++ bitsL (valC o m) 0 m.bits.toNat := by
        unfold stC
        rw [List.take_add_one, hmk]
        simp
      have hsum := HI.out.2.2.2.2.1
      rw [hsum] at hst
      rw [hst] at hsl
      have hs64 := HALL.out.2
      obtain ⟨ix, sub, bits⟩ := m
      obtain ⟨nb, rfl⟩ : ∃ nb : Nat, bits = nb := ⟨bits.toNat, by simp only at hbt; omega⟩
      simp only [Int.toNat_natCast] at hbt hv hw1 hw2 hw3 y0 y1 y2 hst hsl hst2
      have hpn : p + nb ≤ 64 := by omega
      have HST := Lib.hid hst
      have HST2 := Lib.hid hst2
      have HSL := Lib.hid hsl
      have HVL := Lib.hid hv
      have HDW := Lib.hid (HD.out.below HW.out)
      clear hst hst2 hsl hsum hmk hmem hs64 hv hw3
      gi_wp2_with (refine ⟨trivial, ?_⟩; first
        | (gi_at_call 25; refine (callsIn_wide.2 (get_anyR B v o ix sub hw1 hw2 _ (HDW.out.below (below_alloc (Below.refl _ _) _)))).mono ?_; rintro e w4 ⟨v5, rfl, ⟨A5, c5, rfl, ha5, hl5⟩, how, hb4⟩; have HA5 := Lib.hid ha5; have HOW := Lib.hid how; have HB4 := Lib.hid hb4; have y5 : w4.cell? ⟨wr.heap.size, 2, none⟩ = some (.int .i64 nb) := pw_cell_below hb4 (Go.Proofs.YtokebpeplopjhaaDoorW.PrintWords.blk_cell (Go.Proofs.YtokebpeplopjhaaDoorW.PrintWords.blk_new wr (.cells #[.int .u16 ix, .int .u8 sub, .int .i64 nb] 48)) 2); clear ha5 how hb4)
        | (gi_at_call 75; refine (callsIn_wide.2 (mbits _ _ _ _ _ _)).mono ?_; rintro e w5 ⟨rfl, rfl⟩))
      have hvz : valC o ⟨ix, sub, nb⟩ = (findC o ix sub).1.val := rfl
      rw [hvz] at HVL HST2
      clear hvz
      obtain ⟨zs, hzs⟩ : ∃ zs, (findC o ix sub).1.val = zs := ⟨_, rfl⟩
      rw [hzs] at HVL HST2 HA5 HOW hl5 ⊢
      obtain ⟨fnd, hfnd⟩ : ∃ fnd, ((findC o ix sub).2 == 0) = fnd := ⟨_, rfl⟩
      rw [hfnd]
      clear hfnd hzs
      obtain ⟨W0, hW0⟩ : ∃ W0, (((w4.alloc (.cells #[.slice A5 zs.length c5] 34)).alloc (.cells #[.int .i64 0] 3)).alloc (.cells #[.int .i64 nb] 3)) = W0 := ⟨_, rfl⟩
      have hs0 : W0.heap.size = w4.heap.size + 3 := by rw [← hW0]; simp
      have hf0 : Below w4.heap.size w4 W0 := by rw [← hW0]; exact (((Below.refl _ w4).alloc (Nat.le_refl _) _).alloc (by simp) _).alloc (by simp; omega) _
      have hbl : ∀ (X : World) (o : Obj) (k : Nat) (q : Obj), X.heap[k]? = some q → (X.alloc o).heap[k]? = some q := fun X o k q h => (Below.heap_alloc X o k (Array.getElem?_eq_some_iff.1 h).1).trans h
      have hnew : ∀ (X : World) (o : Obj) (k : Nat), X.heap.size = k → (X.alloc o).heap[k]? = some o := fun X o k h => h ▸ World.alloc_heap_new X o
      have b2 : W0.heap[w4.heap.size]? = some (.cells #[.slice A5 zs.length c5] 34 (0, 0)) := by rw [← hW0]; exact hbl _ _ _ _ (hbl _ _ _ _ (hnew _ _ _ rfl))
      have b3 : W0.heap[w4.heap.size + 1]? = some (.cells #[.int .i64 0] 3 (0, 0)) := by rw [← hW0]; exact hbl _ _ _ _ (hnew _ _ _ (by simp))
      have b4 : W0.heap[w4.heap.size + 1 + 1]? = some (.cells #[.int .i64 nb] 3 (0, 0)) := by rw [← hW0]; exact hnew _ _ _ (by simp)
      have hwr4 : wr.heap.size + 1 ≤ w4.heap.size := by have := HB4.out.size; simp at this; omega
      have hwr : Below wr.heap.size wr W0 := (((Below.refl _ wr).alloc (Nat.le_refl _) _).trans (HB4.out.mono (by simp))).trans (hf0.mono (by omega))
      have y6 : W0.cell? ⟨wr.heap.size, 2, none⟩ = some (.int .i64 nb) := pw_cell_below hf0 y5
      have hi := HI.out
      have hwi : w2.heap.size + 3 ≤ wr.heap.size := by have := (Array.getElem?_eq_some_iff.1 hi.2.2.2.1).1; omega
      have r0 : RowB W0 w2.heap.size (pkL (stC o (l.take k) ++ bitsL zs 0 0) sz) := by
        rw [show bitsL zs 0 0 = [] from rfl, List.append_nil]
        exact (hwr.block _ (by omega)).trans hi.2.1
      have b7 : W0.heap[w2.heap.size + 1]? = some (.cells #[.slice (some ⟨w2.heap.size, 0, none⟩) sz sz] 34 (0, 0)) := (hwr.block _ (by omega)).trans hi.2.2.1
      have b8 : W0.heap[w2.heap.size + 1 + 1]? = some (.cells #[.int .i64 p] 3 (0, 0)) := (hwr.block _ (by omega)).trans hi.2.2.2.1
      have hpl : (stC o (l.take k)).length = p := hi.2.2.2.2.2.1
      have hbw : Below w2.heap.size w2 W0 := hi.1.trans (hwr.mono (by omega))
      have hmk0 : Marks Ds W0 := ⟨fun D hD => (hwr.block _ (Array.getElem?_eq_some_iff.1 (hi.2.2.2.2.2.2.1.1 D hD)).1).trans (hi.2.2.2.2.2.2.1.1 D hD), hi.2.2.2.2.2.2.1.2⟩
      have hmlt : ∀ D ∈ Ds, w2.heap.size + 3 ≤ D ∧ D < W0.heap.size := fun D hD => ⟨hi.2.2.2.2.2.2.2 D hD, by have := (Array.getElem?_eq_some_iff.1 (hmk0.1 D hD)).1; omega⟩
      have hrd0 : Rd W0 A5 zs := HA5.out.rd.below hf0
      have hoff : Off (fun k => k = w2.heap.size ∨ k = W0.heap.size ∨ k = W0.heap.size + 1) A5 zs.length := by
        intro ad5 e hn h
        obtain ⟨ad6, e6, hc6⟩ := HA5.out.rd.2 hn
        have h1 := World.block_lt_of_cell? w4 _ (hc6 0 hn)
        rw [Go.Proofs.YtokebpeplopjhaaDoorW.PrintWords.add_block] at h1
        have h2 := HOW.out ad5.block (by rw [e]; rfl)
        rw [e] at e6
        injection e6 with e6
        subst e6
        simp at h2
        omega
      have hsz8 : p + nb ≤ 8 * sz := by have := HSL.out; have := HSZE.out; unfold sizeC at this; omega
      rw [hW0]
      have F0 := Lib.hid hbw
      have R0 := Lib.hid r0
      have B2 := Lib.hid b2
      have B3 := Lib.hid b3
      have B4 := Lib.hid b4
      have B7 := Lib.hid b7
      have B8 := Lib.hid b8
      have S0 := Lib.hid hs0
      have S4 := Lib.hid hwr4
      have SI := Lib.hid hwi
      have MK := Lib.hid hmk0
      have ML := Lib.hid hmlt
      have RD := Lib.hid hrd0
      have OF := Lib.hid hoff
      have PL := Lib.hid hpl
      have Y6 := Lib.hid y6
      have BY := Lib.hid HA5.out.byt
      clear hf0 hs0 hbl hnew r0 b2 b3 b4 b7 b8 hW0 hwr4 hwi hi hwr hbw hmk0 hmlt hrd0 hoff hpl y5 y6
      refine wp_range (gf := 114) (lb := #[.pointer (some ⟨w4.heap.size + 1 + 1, 0, none⟩), .pointer (some ⟨w4.heap.size + 1, 0, none⟩), .pointer (some ⟨w4.heap.size, 0, none⟩)]) rfl (enters_of Tryd.func114 (by kernel_rfl) rfl) nb (bitsV zs 0) (fun k => k = w2.heap.size) (fun _ => False)
        ⟨by have := S0.out; have := S4.out; have := SI.out; omega, by have := S0.out; have := S4.out; have := SI.out; omega⟩ ⟨id, id⟩ (by rintro k x W rfl; rfl) ?_
        (fun j W => RowB W w2.heap.size (pkL (stC o (l.take k) ++ bitsL zs 0 j) sz) ∧ Fr (fun k => k = w2.heap.size) W0 W) (fun _ _ _ => False) ?_ (fun _ _ _ _ h _ => h) ⟨R0.out, Fr.refl _ _⟩ ?_ ?_ (fun _ _ _ _ _ h => h.elim)
      · intro o
        have hs := S0.out
        have hs4 := S4.out
        have hsi := SI.out
        have hfr : Fr (fun _ => False) W0 ((W0.alloc (.deferred (some []))).alloc o) := (Fr.alloc (fun _ => False) W0 _).trans (Fr.alloc _ _ _)
        exact bits_seq (w4.heap.size + 1 + 1) (w4.heap.size + 1) w4.heap.size c5 A5 zs 0 nb _ _ (hfr.cell (Num.blk_cell B4.out) id) (hfr.cell (Num.blk_cell B3.out) id) (hfr.cell (Num.blk_cell B2.out) id) (by omega) (by omega) (by omega) (RD.out.fr hfr (fun _ _ _ => id)) OF.out BY.out (by have := HVL.out; omega) (by omega)
      · rintro j X Y ⟨h1, h2⟩ hf
        have hs := S0.out
        have hs4 := S4.out
        have hsi := SI.out
        exact ⟨(hf.block _ (Array.getElem?_eq_some_iff.1 h1).1 (by rintro (h | h | h) <;> omega)).trans h1, h2.then_ hf (fun i hi h => by rcases h with h | h | h; exact h.elim; exact absurd h (by omega); exact absurd h (by omega))⟩
      · intro ll j args W hkl hk hsz hI
        obtain rfl := hk
        obtain ⟨hrow, hfr⟩ := hI
        obtain ⟨x, hx⟩ : ∃ x, bit zs (0 + j) = x := ⟨_, rfl⟩
        have hx01 : x = 0 ∨ x = 1 := hx ▸ bit_01 _ _
        rw [hx]
        have HX := Lib.hid hx
        have HROW := Lib.hid hrow
        have HFR := Lib.hid hfr
        clear hx hrow hfr
        gi_wp2
        refine ⟨Fr.refl _ _, ?_⟩
        intro W2 hf2
        have hs := S0.out
        have hs4 := S4.out
        have hsi := SI.out
        have hk8 : (p + j) / 8 < sz := by omega
        have hbt : Bits (stC o (l.take k) ++ bitsL zs 0 j) := by
          intro y hy
          rcases List.mem_append.1 hy with hy | hy
          · exact bits_stC _ _ y hy
          · exact bits_bitsL _ _ _ y hy
        have hlen : (stC o (l.take k) ++ bitsL zs 0 j).length = p + j := by rw [List.length_append, bitsL_length, PL.out]
        obtain ⟨t, ht⟩ : ∃ t, stC o (l.take k) ++ bitsL zs 0 j = t := ⟨_, rfl⟩
        rw [ht] at hbt hlen HROW
        have HTT := Lib.hid ht
        have hrow2 : RowB W2 w2.heap.size (pkL t sz) := (hf2.block _ (Array.getElem?_eq_some_iff.1 HROW.out).1 (by omega)).trans HROW.out
        obtain ⟨hc, hfz⟩ := hrow2.cell ((p + j) / 8) (by rw [pkL_length]; exact hk8)
        rw [pkL_get _ _ _ hk8] at hc
        have hlow := byteP_low hbt
        rw [hlen] at hlow
        obtain ⟨cur, hcur⟩ : ∃ cur, byteP t ((p + j) / 8) = cur := ⟨_, rfl⟩
        rw [hcur] at hc hlow
        have hc7 : W2.cell? ⟨w2.heap.size + 1, 0, none⟩ = some (.slice (some ⟨w2.heap.size, 0, none⟩) sz sz) := hf2.cell (HFR.out.cell (Num.blk_cell B7.out) (fun e => absurd (show w2.heap.size + 1 = w2.heap.size from e) (by omega))) (fun e => absurd (show w2.heap.size + 1 = W0.heap.size + 1 from e) (by omega))
        have hc8 : W2.cell? ⟨w2.heap.size + 1 + 1, 0, none⟩ = some (.int .i64 p) := hf2.cell (HFR.out.cell (Num.blk_cell B8.out) (fun e => absurd (show w2.heap.size + 1 + 1 = w2.heap.size from e) (by omega))) (fun e => absurd (show w2.heap.size + 1 + 1 = W0.heap.size + 1 from e) (by omega))
        have hjoin := u8_join cur x ((p + j) % 8) (by omega) hlow hx01
        have HJ := Lib.hid hjoin
        have HC := Lib.hid hcur
        have HLEN := Lib.hid hlen
        have HR2 := Lib.hid hrow2
        have HF2 := Lib.hid hf2
        clear hlow hjoin hcur hrow2 hf2 hlen hbt ht
        gi_wp2
        have hS : (fun X : World => X.cell? ⟨w2.heap.size + 1, 0, none⟩ = some (.slice (some ⟨w2.heap.size, 0, none⟩) sz sz) ∧ X.cell? ⟨w2.heap.size + 1 + 1, 0, none⟩ = some (.int .i64 p)) W2.drew := ⟨hc7, hc8⟩
        refine region_in (S := fun X : World => X.cell? ⟨w2.heap.size + 1, 0, none⟩ = some (.slice (some ⟨w2.heap.size, 0, none⟩) sz sz) ∧ X.cell? ⟨w2.heap.size + 1 + 1, 0, none⟩ = some (.int .i64 p)) (by kernel_rfl) (by kernel_rfl) (by rintro ⟨_, _, h⟩; exact h) ?_
        refine wpAnyH_take (i := 0) (v := .slice (some ⟨w2.heap.size, 0, none⟩) sz sz) rfl (by kernel_rfl) (by kernel_rfl) (by kernel_rfl) (fun _ _ _ h => h) (.inl ⟨by simp [Region.wanted], fun X hX => ?_⟩) hS ?_
        · obtain ⟨h1, h2⟩ := hX
          go_simp
        refine wpAnyH_take (i := 1) (v := .int .i64 p) rfl (by kernel_rfl) (by kernel_rfl) (by kernel_rfl) (fun _ _ _ h => h) (.inl ⟨by simp [Region.wanted], fun X hX => ?_⟩) hS ?_
        · obtain ⟨h1, h2⟩ := hX
          go_simp
        refine wpAnyH_take (i := 2) (v := .int .i64 j) rfl (by kernel_rfl) (by kernel_rfl) (by kernel_rfl) (fun _ _ _ h => h) (.inl ⟨by simp [Region.wanted], fun X hX => ?_⟩) hS ?_
        · go_simp
        refine wpAnyH_take (i := 3) (v := .int .i64 ((p : Int) + j)) rfl (by kernel_rfl) (by kernel_rfl) (by kernel_rfl) (fun _ _ _ h => h) (.inl ⟨by simp [Region.wanted], fun X hX => ?_⟩) hS ?_
        · go_simp
          rw [IntKind.wrap_i64]
          omega
        refine wpAnyH_take (i := 4) (v := .int .i64 (((p : Int) + j) / 8)) rfl (by kernel_rfl) (by kernel_rfl) (by kernel_rfl) (fun _ _ _ h => h) (.inl ⟨by simp [Region.wanted], fun X hX => ?_⟩) hS ?_
        · go_simp
          rw [Int.tdiv_eq_ediv_of_nonneg (by omega), IntKind.wrap_i64]
          omega
        refine wpAnyH_take (i := 5) (v := .pointer (some ⟨w2.heap.size, (p + j) / 8, none⟩)) rfl (by kernel_rfl) (by kernel_rfl) (by kernel_rfl) (fun _ _ _ h => h) (.inl ⟨by simp [Region.wanted], fun X hX => ?_⟩) hS ?_
        · go_simp
          rw [if_pos ⟨by omega, by omega⟩, show (((p : Int) + j) / 8).toNat = (p + j) / 8 by omega]
        refine wpAnyH_take (i := 7) (v := .int .u8 x) rfl (by kernel_rfl) (by kernel_rfl) (by kernel_rfl) (fun _ _ _ h => h) (.inl ⟨by simp [Region.wanted], fun X hX => ?_⟩) hS ?_
        · go_simp
        refine wpAnyH_take (i := 8) (v := .int .i64 p) rfl (by kernel_rfl) (by kernel_rfl) (by kernel_rfl) (fun _ _ _ h => h) (.inl ⟨by simp [Region.wanted], fun X hX => ?_⟩) hS ?_
        · obtain ⟨h1, h2⟩ := hX
          go_simp
        refine wpAnyH_take (i := 9) (v := .int .i64 j) rfl (by kernel_rfl) (by kernel_rfl) (by kernel_rfl) (fun _ _ _ h => h) (.inl ⟨by simp [Region.wanted], fun X hX => ?_⟩) hS ?_
        · go_simp
        refine wpAnyH_take (i := 10) (v := .int .i64 ((p : Int) + j)) rfl (by kernel_rfl) (by kernel_rfl) (by kernel_rfl) (fun _ _ _ h => h) (.inl ⟨by simp [Region.wanted], fun X hX => ?_⟩) hS ?_
        · go_simp
          rw [IntKind.wrap_i64]
          omega
        refine wpAnyH_take (i := 11) (v := .int .i64 (((p : Int) + j) % 8)) rfl (by kernel_rfl) (by kernel_rfl) (by kernel_rfl) (fun _ _ _ h => h) (.inl ⟨by simp [Region.wanted], fun X hX => ?_⟩) hS ?_
        · go_simp
          rw [Int.tmod_eq_emod_of_nonneg (by omega)]
        refine wpAnyH_take (i := 12) (v := .int .u8 (IntKind.u8.wrap (x * 2 ^ ((p + j) % 8)))) rfl (by kernel_rfl) (by kernel_rfl) (by kernel_rfl) (fun _ _ _ h => h) (.inl ⟨by simp [Region.wanted], fun X hX => ?_⟩) hS ?_
        · go_simp
          rw [show (((p : Int) + j) % 8).toNat = (p + j) % 8 by omega]
        refine wpAnyH_ready (rs := [6]) (by kernel_rfl) (by simp) (AllReadyH.cons rfl (fun K hK => ?_) AllReadyH.nil)
        go_simp
        refine hK.out _ _ hS (fun _ => ?_)
        clear hK
        refine wpAnyH_take (i := 13) (v := .int .u8 (cur + x * 2 ^ ((p + j) % 8))) rfl (by kernel_rfl) (by kernel_rfl) (by kernel_rfl) (fun _ _ _ h => h) (.inl ⟨by simp [Region.wanted], fun X hX => ?_⟩) hS ?_
        · go_simp
          rw [HJ.out]
        refine wpAnyH_take (i := 14) (v := .pointer (some ⟨w2.heap.size, (p + j) / 8, none⟩)) rfl (by kernel_rfl) (by kernel_rfl) (by kernel_rfl) (fun _ _ _ h => h) (.inl ⟨by simp [Region.wanted], fun X hX => ?_⟩) hS ?_
        · go_simp
          rw [if_pos ⟨by omega, by omega⟩, show (((p : Int) + j) / 8).toNat = (p + j) / 8 by omega]
        refine wpAnyH_ready (rs := [15]) (by kernel_rfl) (by simp) (AllReadyH.cons rfl (fun K hK => ?_) AllReadyH.nil)
        go_simp
        refine hK.out _ _ ⟨?_, ?_⟩ (fun _ => ?_)
        · show (W2.setCell ⟨w2.heap.size, (p + j) / 8, none⟩ _).cell? _ = _
          rw [World.cell?_setCell_other _ _ _ _ (by intro e; injection e with e1 _; omega)]
          exact hc7
        · show (W2.setCell ⟨w2.heap.size, (p + j) / 8, none⟩ _).cell? _ = _
          rw [World.cell?_setCell_other _ _ _ _ (by intro e; injection e with e1 _; omega)]
          exact hc8
        clear hK
        refine wpAnyH_done (by kernel_rfl) ?_ _
        have hfs : Fr (fun k => k = w2.heap.size) W2 (W2.setCell ⟨w2.heap.size, (p + j) / 8, none⟩ (.int .u8 (cur + x * 2 ^ ((p + j) % 8)))) := Fr.setCell (M := fun k => k = w2.heap.size) W2 ⟨w2.heap.size, (p + j) / 8, none⟩ _ (.inl rfl)
        refine ⟨hfs.trans (Fr.drew _ _), ?_, ((HFR.out.then_ HF2.out (fun i hi h => absurd (show i = W0.heap.size + 1 from h) (by omega))).trans hfs).trans (Fr.drew _ _)⟩
        have hput := HR2.out.put ((p + j) / 8) (cur + x * 2 ^ ((p + j) % 8))
        have hset := pkL_set t x sz (by rw [HLEN.out]; exact hk8)
        rw [HLEN.out, HC.out] at hset
        rw [hset] at hput
        rw [bitsL_succ, HX.out, ← List.append_assoc, HTT.out]
        exact hput
      · intro W hsz hI hK
        obtain ⟨hrow, hfr⟩ := hI
        have hs := S0.out
        have hs4 := S4.out
        have hsi := SI.out
        have y6 : W.cell? ⟨wr.heap.size, 2, none⟩ = some (.int .i64 nb) := hfr.cell Y6.out (fun e => absurd (show wr.heap.size = w2.heap.size from e) (by omega))
        have hc8 : W.heap[w2.heap.size + 1 + 1]? = some (.cells #[.int .i64 p] 3 (0, 0)) := (hfr.block _ (Array.getElem?_eq_some_iff.1 B8.out).1 (by omega)).trans B8.out
        have hc8a := Num.blk_cell hc8
        have hc8b := Num.blk_free hc8
        have HROW := Lib.hid hrow
        have HFR := Lib.hid hfr
        have HK := Lib.hid hK
        have HC8 := Lib.hid hc8
        have hfr'' : ∀ W, Fr (fun k => k = w2.heap.size) W0 W → Below w2.heap.size W0 W := fun W h => h.below (fun jj hj => ⟨by omega, fun e => absurd (show jj = w2.heap.size from e) (by omega)⟩)
        clear hrow hfr hK hc8
        gi_wp2
        have hbs : ∀ (u : Value) (q : Nat), q ≠ w2.heap.size + 1 + 1 → (W.setCell ⟨w2.heap.size + 1 + 1, 0, none⟩ u).heap[q]? = W.heap[q]? := fun u q hq => Below.heap_setCell W ⟨w2.heap.size + 1 + 1, 0, none⟩ u q hq
        refine ⟨⟨k + 1, p + nb, W0.heap.size :: Ds, _, _, _, _, _, _, _, _, _, _, _, _, _, _, _, _, _, _, _, _, _, _, by omega, ⟨?_, ?_, ?_, ?_, ?_, ?_, ⟨?_, ?_⟩, ?_⟩, rfl⟩, ?_⟩
        · exact (F0.out.trans (hfr'' W HFR.out)).setCell (by simp; omega) _
        · exact (hbs _ _ (by omega)).trans (by rw [HST2.out]; exact HROW.out)
        · exact (hbs _ _ (by omega)).trans ((HFR.out.block _ (Array.getElem?_eq_some_iff.1 B7.out).1 (by omega)).trans B7.out)
        · rw [Int.natCast_add]
          exact Num.blk_put HC8.out _
        · rw [HST.out, Int.natCast_add]
        · rw [HST2.out, List.length_append, PL.out, bitsL_length]
        · intro D hD
          rcases List.mem_cons.1 hD with rfl | hD
          · exact (hbs _ _ (by omega)).trans HK.out
          · have := ML.out D hD
            exact (hbs _ _ (by omega)).trans ((HFR.out.block _ this.2 (by omega)).trans (MK.out.1 D hD))
        · exact List.pairwise_cons.2 ⟨fun D hD => by have := ML.out D hD; omega, MK.out.2⟩
        · intro D hD
          rcases List.mem_cons.1 hD with rfl | hD
          · omega
          · exact (ML.out D hD).1
        · simp [intOf]
          omega
    · obtain rfl : k = n := by omega
      obtain ⟨i1, i2, i3, i4, i5, i6, i7, i8⟩ := HI.out
      have hc := Num.blk_cell i3
      clear i1 i2 i3 i4 i5 i6 i7 i8
      gi_wp2
      obtain ⟨i1, i2, i3, i4, i5, i6, i7, i8⟩ := HI.out
      refine leave_many Ds wr _ rfl i7 (fun W' hf => ⟨_, results_tmp2 rfl _ _ _, w2.heap.size, rfl, HB2.out.size, ?_, ?_⟩)
      · have hpk : packC o l = pkL (stC o (l.take k)) sz := by
          unfold packC
          rw [HSZE.out, List.take_of_length_le (by rw [HN.out]; exact Nat.le_refl _)]
        rw [hpk]
        exact (hf.block _ (Array.getElem?_eq_some_iff.1 i2).1 (fun h => by have := i8 _ h; omega)).trans i2
      · exact HB2.out.trans (((i1.trans (hf.below (fun jj hj => ⟨by have := i1.size; omega, fun h => by have := i8 _ h; omega⟩)))).mono HB2.out.size)
end Go.Proofs.YtokebpeplopjhaaDoor.Num
namespace Go.Proofs.YtokebpeplopjhaaDoor.Mp
open Go.RowKit Go.Shelf Go.Proofs.YtokebpeplopjhaaDoor.Rng Go.Proofs.YtokebpeplopjhaaDoorW.PrintWords Go.Proofs.YtokebpeplopjhaaDoorW.PrintMore Go.Proofs.YtokebpeplopjhaaDoorW.PrintLast

set_option maxRecDepth 100000 in
set_option maxHeartbeats 1000000 in
theorem new_big (B : Nat) (l : List En) (A : Option Addr) (c : Nat) (w : World) (hl : 1024 < l.length) (r : Int × Option DD) (hr : newR l = r) :
    Calls Tryd.prog 19 #[.slice A l.length c] w (NewSaid B w r) := by
  obtain rfl : r = (3, none) := by rw [← hr]; unfold newR; rw [if_pos hl]
  clear hr
  generalize l.length = n at hl ⊢
  have hd : decide ((1024 : Int) < (n : Int)) = true := decide_eq_true (by omega)
  go_enter Tryd.func19, Tryd.ntmps19
  go_wp2
  go_ret2
  exact ⟨Below.refl _ _, rfl⟩
theorem new_all (B : Nat) (l : List En) (A : Option Addr) (c : Nat) (w : World) (h : EsAt w A l) (hwf : ∀ e ∈ l, e.Wf) (ht : Tbl w) (hB : B ≤ w.heap.size) (r : Int × Option DD) (hr : newR l = r) :
    Calls Tryd.prog 19 #[.slice A l.length c] w (NewSaid B w r) := by
  by_cases hl : 1024 < l.length
  · exact new_big B l A c w hl r hr
  · exact new_any B l A c w h hwf ht hB (by omega) r hr
set_option maxRecDepth 100000 in
set_option maxHeartbeats 1000000 in
theorem pack_no (B : Nat) (v : Value) (o : Option DD) (l : List Mp) (A : Option Addr) (c : Nat) (w : World) (h : DictV B w v o) (ht : Tbl w) (hm : MsAt w A l) (hl : l.length ≤ 1000000) (hmw : ∀ m ∈ l, m.Wf) (hwf : ∀ i s, (findC o i s).1.Wf) (h0 : checkC o l true ≠ 0) :
    Calls Tryd.prog 22 #[v, .slice A l.length c] w fun e w' => e = .returned (.tuple #[.slice none 0 0, .int .u32 (checkC o l true)]) ∧ Below w.heap.size w w' := by
  have HCK := Aside0.mk (mcheck_any B v o l A c true w h ht hm hl hmw hwf)
  generalize checkC o l true = q at HCK h0 ⊢
  generalize l.length = n at HCK ⊢
  have q2 : (q != 0) = true := by simpa using h0
  have q1 : (q == 0) = false := by simpa using h0
  clear h ht hm hmw hwf
  go_enter Tryd.func22, Tryd.ntmps22
  go_wp2_with (go_at_call 21; refine HCK.out.mono ?_; rintro e w1 ⟨rfl, hb1⟩; have HB1 := Aside0.mk hb1; clear hb1)
  go_ret2
  exact ⟨rfl, HB1.out⟩
end Go.Proofs.YtokebpeplopjhaaDoor.Mp
namespace Go.Proofs.YtokebpeplopjhaaDoor.Mp
open Go.Proofs.YtokebpeplopjhaaDoor.Num

theorem fits_len {t bits : Int} {v : List Int} (hf : fitsC t bits) (hp : plainC t v = 0) : (v.length : Int) = (bits + 7) / 8 := by
  obtain ⟨h1, h2⟩ := hf
  have hk := siz_pos.1 h1
  have h3 := (plainC_0 hp).2.2.1 hk.2
  rcases h2 with h2 | ⟨rfl, h2⟩
  · omega
  · have : siz 1 = 1 := rfl
    omega
theorem find_0 {d : DD} {i s : Int} (h : (findC (some d) i s).2 = 0) : ∃ x, d.D i s = some x ∧ findC (some d) i s = (x, 0) := by
  cases hd : d.D i s with
  | some x => exact ⟨x, rfl, by simp [findC, DD.at, hd]⟩
  | none =>
    simp only [findC, DD.at, hd] at h
    split at h <;> simp at h
theorem out_val {d : DD} (hd : Good d) {m : Mp} (h : oneC (some d) true m = 0) : ∃ x, d.D m.ix m.sub = some x ∧ findC (some d) m.ix m.sub = (x, 0) ∧ (x.val.length : Int) = (m.bits + 7) / 8 ∧ Byt x.val ∧ fitsC x.ty m.bits ∧ plainC x.ty x.val = 0 := by
  rcases one_0 h with ⟨_, h1⟩ | ⟨_, h2, _, h3⟩
  · cases h1
  · obtain ⟨x, hx, he⟩ := find_0 h2
    rw [he] at h3
    obtain ⟨_, _, _, h4, h5⟩ := hd.it _ _ x hx
    exact ⟨x, hx, he, fits_len h3 h4, h5, h3, h4⟩
theorem check_0 {o : Option DD} {l : List Mp} {out : Bool} (h : checkC o l out = 0) : (∀ m ∈ l, oneC o out m = 0) ∧ sumC l ≤ 64 ∧ l.length ≤ 64 := by
  unfold checkC at h
  split at h
  · simp at h
  · obtain ⟨h1, h2⟩ := check_all (by omega) h
    exact ⟨h1, h2, by omega⟩
theorem vals_ok {d : DD} (hd : Good d) {l : List Mp} (h : checkC (some d) l true = 0) : ∀ m ∈ l, m.bits.toNat ≤ 8 * (valC (some d) m).length := by
  intro m hm
  obtain ⟨x, _, he, hl, _⟩ := out_val hd ((check_0 h).1 m hm)
  have hb := one_bits ((check_0 h).1 m hm)
  unfold valC
  rw [he]
  simp only
  omega
theorem stC_app (o : Option DD) (a b : List Mp) : stC o (a ++ b) = stC o a ++ stC o b := by simp [stC]
theorem stC_len (o : Option DD) : ∀ l : List Mp, (∀ m ∈ l, 0 ≤ m.bits) → ((stC o l).length : Int) = sumC l
  | [], _ => rfl
  | m :: r, h => by
    have ih := stC_len o r (fun x hx => h x (by simp [hx]))
    have h0 := h m (by simp)
    have e : stC o (m :: r) = bitsL (valC o m) 0 m.bits.toNat ++ stC o r := by simp [stC]
    have e2 : sumC (m :: r) = m.bits + sumC r := by simp [sumC]
    rw [e, e2, List.length_append, bitsL_length]
    omega
theorem st_get (o : Option DD) (l : List Mp) (k : Nat) (m : Mp) (hk : l[k]? = some m) (j : Nat) (hj : j < m.bits.toNat) : (stC o l)[(stC o (l.take k)).length + j]?.getD 0 = bit (valC o m) j := by
  have hl : k < l.length := (List.getElem?_eq_some_iff.1 hk).1
  have e : l = l.take k ++ m :: l.drop (k + 1) := by
    conv => lhs; rw [← List.take_append_drop k l]
    rw [List.drop_eq_getElem_cons hl]
    rw [List.getElem?_eq_getElem hl] at hk
    injection hk with hk
    rw [hk]
  have e2 : stC o l = stC o (l.take k) ++ (bitsL (valC o m) 0 m.bits.toNat ++ stC o (l.drop (k + 1))) := by
    conv => lhs; rw [e]
    rw [stC_app]
    simp [stC]
  rw [e2, List.getElem?_append_right (by omega), Nat.add_sub_cancel_left, List.getElem?_append_left (by rw [bitsL_length]; exact hj), bitsL_get, if_pos hj, Nat.zero_add]
theorem pack_bit (o : Option DD) (l : List Mp) {k : Nat} (hk : k < 8 * sizeC l) : bit (packC o l) k = (stC o l)[k]?.getD 0 := bit_pkL (bits_stC o l) hk
theorem size_sum {o : Option DD} {l : List Mp} {out : Bool} (h : checkC o l out = 0) : sumC l = ((sumC l).toNat : Int) ∧ sizeC l = ((sumC l).toNat + 7) / 8 ∧ (sumC l).toNat ≤ 64 := by
  obtain ⟨h1, h2, _⟩ := check_0 h
  have h0 : 0 ≤ sumC l := sumC_nonneg (fun m hm => by have := one_bits (h1 m hm); omega)
  unfold sizeC
  omega
/-- One gap more ahead. -/
theorem outV_shift (b : List Int) (n at_ k : Nat) : outV b (8 * n + at_) k = outV (b.drop n) at_ k := by
  unfold outV bitsL
  congr 1
  apply List.map_congr_left
  intro j _
  unfold bit
  rw [show (8 * n + at_ + j) / 8 = n + (at_ + j) / 8 by omega, show (8 * n + at_ + j) % 8 = (at_ + j) % 8 by omega, List.getElem?_drop]
theorem unpA_shift (o : Option DD) (b : List Int) (n : Nat) : ∀ (l : List Mp) (at_ : Nat) (acc : List Vl), unpA o b l (8 * n + at_) acc = unpA o (b.drop n) l at_ acc
  | [], _, _ => rfl
  | m :: r, at_, acc => by
    unfold unpA
    rw [outV_shift, Nat.add_assoc, unpA_shift, unpA_shift]
theorem checkL_more {o : Option DD} {out : Bool} : ∀ {l : List Mp} {a b : Int}, a ≤ b → checkL o out l a = 0 → checkL o out l b = 0
  | [], _, _, _, _ => rfl
  | m :: r, a, b, h, h0 => by
    unfold checkL at h0 ⊢
    split at h0
    · rename_i h1
      exact absurd h0 h1
    · rename_i h1
      rw [if_neg h1]
      split at h0
      · simp at h0
      · rw [if_neg (by omega)]
        exact checkL_more (by omega) h0
theorem unpack_gap (d : DD) (g : Mp) (l : List Mp) (b : List Int) (n : Nat) (hg : gapC g) (hn : g.bits = 8 * n) (hb : n ≤ b.length) (h : checkC (some d) (g :: l) false = 0) :
    unpackC (some d) (g :: l) b = unpackC (some d) l (b.drop n) := by
  obtain ⟨h1, h2, h3⟩ := check_0 h
  have hl : checkC (some d) l false = 0 := by
    unfold checkC at h ⊢
    rw [if_neg (by omega)] at h
    rw [if_neg (by simp at h3; omega)]
    unfold checkL at h
    split at h
    · rename_i h4
      exact absurd h h4
    · split at h
      · simp at h
      · exact checkL_more (by omega) h
  have hs := size_sum h
  have hs2 := size_sum hl
  have hsum : sumC (g :: l) = g.bits + sumC l := by simp [sumC]
  have hlen : b.length < sizeC (g :: l) ↔ (b.drop n).length < sizeC l := by
    rw [List.length_drop]
    omega
  unfold unpackC
  rw [h, hl]
  simp only [ne_eq, not_true_eq_false, if_false]
  by_cases hc : (b.drop n).length < sizeC l
  · rw [if_pos hc, if_pos (hlen.2 hc)]
  · rw [if_neg hc, if_neg (fun x => hc (hlen.1 x))]
    rw [show unpA (some d) b (g :: l) 0 [] = if gapC g then unpA (some d) b l (0 + g.bits.toNat) [] else _ from rfl, if_pos hg, hn]
    have := unpA_shift (some d) b n l 0 []
    rw [Nat.add_zero] at this
    rw [← this, show 0 + (8 * (n : Int)).toNat = 8 * n by omega]
end Go.Proofs.YtokebpeplopjhaaDoor.Mp
namespace Go.Proofs.YtokebpeplopjhaaDoor.Mp
open Go.RowKit Go.Shelf Go.Proofs.YtokebpeplopjhaaDoor.Rng Go.Proofs.YtokebpeplopjhaaDoorW.PrintWords Go.Proofs.YtokebpeplopjhaaDoorW.PrintMore Go.Proofs.YtokebpeplopjhaaDoorW.PrintLast

/-- A Map's number. -/
def numC (i s b : Int) : Int := if 0 ≤ b ∧ b ≤ 255 then i * 65536 + s * 256 + b else 0
theorem bits_or_u32_nat (a b : Nat) (ha : a < 4294967296) (hb : b < 4294967296) : bits .or .u32 (a : Int) (b : Int) = ((a ||| b : Nat) : Int) := by
  have hx : a ||| b < 2 ^ 32 := Nat.or_lt_two_pow (by omega) (by omega)
  have h1 : (BitVec.ofInt 32 (a : Int)).toNat = a := by
    rw [BitVec.ofInt_natCast, BitVec.toNat_ofNat]; exact Nat.mod_eq_of_lt (by omega)
  have h2 : (BitVec.ofInt 32 (b : Int)).toNat = b := by
    rw [BitVec.ofInt_natCast, BitVec.toNat_ofNat]; exact Nat.mod_eq_of_lt (by omega)
  show IntKind.u32.wrap ((BitVec.ofInt 32 (a : Int) ||| BitVec.ofInt 32 (b : Int)).toNat : Int) = _
  rw [BitVec.toNat_or, h1, h2, IntKind.wrap_u32]
  omega
theorem or32 (i : Nat) (a b : Int) (ha : 0 ≤ a) (hb : 0 ≤ b) (hb2 : b < 2 ^ i) (hs : a * 2 ^ i + b < 4294967296) : bits .or .u32 (a * 2 ^ i) b = a * 2 ^ i + b := by
  obtain ⟨x, rfl⟩ := Int.eq_ofNat_of_zero_le ha
  obtain ⟨y, rfl⟩ := Int.eq_ofNat_of_zero_le hb
  have e : ((x : Int) * 2 ^ i) = ((2 ^ i * x : Nat) : Int) := by push_cast; rw [Int.mul_comm]
  rw [e] at hs ⊢
  have hy : y < 2 ^ i := by exact_mod_cast hb2
  rw [bits_or_u32_nat _ _ (by omega) (by omega), ← Nat.two_pow_add_eq_or_of_lt hy]
  omega
theorem info_map : (Tryd.prog.info? 48).map (·.size) = some 3 := by kernel_rfl
theorem of_end {tmps : Array Value} {W : World} {b : Nat} {cs : Array Value} {t : TypeId} (h4 : tmps.getD 2 undef = .pointer (some ⟨b, 0, none⟩)) (hb : W.heap[b]? = some (.cells cs t (0, 0))) (hs : cs.size = 3) :
    (results Tryd.f29 tmps).run Tryd.prog W = .ok (.agg cs) W :=
  results_single rfl (.cell b t cs (0, 0) _ h4 hb Tryd.underlying48 rfl (by rw [info_map, hs]) .nil)
set_option maxRecDepth 100000 in
set_option maxHeartbeats 1000000 in
theorem of_any (n : Int) (hn : 0 ≤ n ∧ n < 4294967296) (w : World) :
    Calls Tryd.prog 29 #[.int .u32 n] w fun e w' => e = .returned (mpV (n / 65536) (n / 256 % 256) (n % 256)) ∧ Below w.heap.size w w' := by
  go_enter Tryd.func29, Tryd.ntmps29
  go_wp2
  exact bodyPost_ret (of_end rfl (blk_new w (.cells #[.int .u16 (n / 65536), .int .u8 (n / 256 % 256), .int .i64 (n % 256)] 48)) rfl) rfl ⟨rfl, below_alloc (Below.refl _ _) _⟩
set_option maxRecDepth 100000 in
set_option maxHeartbeats 1000000 in
theorem number_map (i s b : Int) (hi : 0 ≤ i ∧ i < 65536) (hs : 0 ≤ s ∧ s < 256) (hb : -9223372036854775808 ≤ b ∧ b ≤ 9223372036854775807) (w : World) :
    Calls Tryd.prog 38 #[mpV i s b] w fun e w' => e = .returned (.int .u32 (numC i s b)) ∧ Below w.heap.size w w' := by
  have hb0 : Below w.heap.size w (w.alloc (.cells #[.int .u16 i, .int .u8 s, .int .i64 b] 48)) := below_alloc (Below.refl _ _) _
  by_cases h0 : b < 0
  · rw [show numC i s b = 0 by unfold numC; rw [if_neg (by omega)]]
    go_enter Tryd.func38, Tryd.ntmps38
    go_wp2
    go_ret
    exact ⟨rfl, hb0⟩
  · by_cases h1 : 255 < b
    · rw [show numC i s b = 0 by unfold numC; rw [if_neg (by omega)]]
      go_enter Tryd.func38, Tryd.ntmps38
      go_wp2
      go_ret
      exact ⟨rfl, hb0⟩
    · rw [show numC i s b = i * 65536 + s * 256 + b by unfold numC; rw [if_pos (by omega)]]
      go_enter Tryd.func38, Tryd.ntmps38
      go_wp2
      have e1 : bits .or .u32 (i * 65536) (s * 256) = (i * 256 + s) * 256 := by
        rw [show i * 65536 = i * 2 ^ 16 by rfl, or32 16 i (s * 256) (by omega) (by omega) (by omega) (by omega)]
        omega
      have e2 : bits .or .u32 ((i * 256 + s) * 256) b = i * 65536 + s * 256 + b := by
        rw [show (i * 256 + s) * 256 = (i * 256 + s) * 2 ^ 8 by rfl, or32 8 (i * 256 + s) b (by omega) (by omega) (by omega) (by omega)]
        omega
      rw [e1, e2]
      go_ret
      exact ⟨rfl, hb0⟩
end Go.Proofs.YtokebpeplopjhaaDoor.Mp
namespace Go.Proofs.YtokebpeplopjhaaDoor.Mp
open Go.RowKit Go.Shelf Go.Proofs.YtokebpeplopjhaaDoor.Rng Go.Proofs.YtokebpeplopjhaaDoorW.PrintWords Go.Proofs.YtokebpeplopjhaaDoorW.PrintMore Go.Proofs.YtokebpeplopjhaaDoorW.PrintLast

def eX (sub t : Int) (b : List Int) : En := ⟨24576, sub, ByteArray.empty, t, 7, b, [], [], 0, 0⟩
theorem entry_end {tmps : Array Value} {W : World} {b : Nat} {cs : Array Value} {t : TypeId} (h4 : tmps.getD 6 undef = .pointer (some ⟨b, 0, none⟩)) (hb : W.heap[b]? = some (.cells cs t (0, 0))) (hs : cs.size = 10) :
    (results Tryd.f81 tmps).run Tryd.prog W = .ok (.agg cs) W :=
  results_single rfl (.cell b t cs (0, 0) _ h4 hb Tryd.underlying121 rfl (by rw [info_en, hs]) .nil)
set_option maxRecDepth 100000 in
set_option maxHeartbeats 1000000 in
theorem entry_any (sub t : Int) (ad : Addr) (c : Nat) (b : List Int) (w : World) (h : Arg w (some ad) c b) (hl : b.length ≤ 1000) :
    Calls Tryd.prog 81 #[.int .u8 sub, .int .u8 t, .slice (some ad) b.length c] w fun e w' => ∃ v, e = .returned v ∧ EnV w' v (eX sub t b) ∧ Below w.heap.size w w' := by
  have HR := Aside0.mk (Rd_C h.rd)
  have HY := Aside0.mk h.byt
  clear h
  go_enter Tryd.func81, Tryd.ntmps81
  go_wp2_with ((with_reducible refine gate_dst (N := 10) rfl ?_); refine Kd.R_append_row (Value.int .u8) (0 : Int) (h1 := fun _ => rfl) (w0 := w.alloc (.cells #[.int .u16 0, .int .u8 0, .string ⟨#[]⟩, .int .u8 0, .int .u8 0, .slice none 0 0, .slice none 0 0, .slice none 0 0, .int .u8 0, .int .u8 0] 121)) (w.heap.size + 1) rfl _ _ _ 5 (.int .u8 0) 1 rfl Tryd.underlying34 info_u8 rfl (by decide) _ [] b (some ad) b.length c (fun k => w.heap.size + 1 ≤ k) rfl rfl (fun k hk => by simp at hk; omega) (Kd.R_nil _ _ _ _ _) (Kd.C_below HR.out (below_alloc (Below.refl _ _) _)) (Below.refl _ _) (by simp) (by simp; omega) ?_; intro v1 w1 hown hb hg hat; rw [List.nil_append] at hown; obtain ⟨A1, c1, rfl⟩ := Kd.R_slice hown; have HO := Aside0.mk hown; have HB := Aside0.mk hb; have HROW := Aside0.mk ((hb.block w.heap.size (Nat.lt_succ_self _)).trans (blk_new w _)); obtain ⟨e0, e1, e2, e3, e4, e5, e6, e7, e8, e9, ef⟩ := held10 HROW.out; clear hown hb hg hat)
  rw [cells10]
  have hA := (ArgV.of_R HO.out HY.out (by omega)).off (R_off (k := w.heap.size) HO.out (Nat.lt_succ_self _))
  refine bodyPost_ret (entry_end (b := w.heap.size) (cs := #[.int .u16 24576, .int .u8 sub, .string ⟨#[]⟩, .int .u8 t, .int .u8 7, .slice A1 b.length c1, .slice none 0 0, .slice none 0 0, .int .u8 0, .int .u8 0]) (t := 121) rfl (row10 HROW.out ..) rfl) rfl ⟨_, rfl, ⟨_, _, _, rfl, ArgO.set hA (fr_cells _ _ _), ArgV.nil _, ArgV.nil _⟩, below_cells (Nat.le_refl _) _ _ ((below_alloc (Below.refl _ _) _).trans (HB.out.mono (Nat.le_succ _)))⟩
end Go.Proofs.YtokebpeplopjhaaDoor.Mp
