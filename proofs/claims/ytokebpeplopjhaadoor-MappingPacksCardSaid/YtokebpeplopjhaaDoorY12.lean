/- The document's bit and Pack. MappingPacks, walked. -/
import Derived.Test.YtokebpeplopjhaaDoorY11
import Derived.StillTailTactics
import Derived.Deep.RegionHeld3
namespace Go.Proofs.YtokebpeplopjhaaDoor.Mp
open Go.RowKit Go.Shelf Go.Proofs.YtokebpeplopjhaaDoor.Rng Go.Proofs.YtokebpeplopjhaaDoorW.PrintWords Go.Proofs.YtokebpeplopjhaaDoorW.PrintMore Go.Proofs.YtokebpeplopjhaaDoorW.PrintLast

theorem and_bit2 {x : Int} (h : 0 ≤ x ∧ x < 256) (k : Nat) : bits .and .u8 (x / 2 ^ (k % 8)) 1 = x / 2 ^ (k % 8) % 2 := by
  have h2 : (0 : Int) < 2 ^ (k % 8) := Int.pow_pos (by decide)
  exact Num.and_one _ ⟨Int.ediv_nonneg h.1 (Int.le_of_lt h2), Int.lt_of_le_of_lt (Int.ediv_le_self _ h.1) h.2⟩
theorem rd_cell {w : World} {A : Option Addr} {zs : List Int} (h : Rd w A zs) {j : Nat} (hj : j < zs.length) : ∃ ad, A = some ad ∧ w.cell? (ad.add j) = some (.int .u8 (zs[j]?.getD 0)) := by
  obtain ⟨ad, hA, hc⟩ := h.2 (by omega)
  exact ⟨ad, hA, hc j hj⟩
set_option maxRecDepth 100000 in
set_option maxHeartbeats 1000000 in
theorem rbit_any (A : Option Addr) (n c : Nat) (zs : List Int) (k : Nat) (w : World) (h : Rd w A zs) (hb : Byt zs) (hn : zs.length = n) (hk : k / 8 < n) (h8 : k < 1000000) :
    Calls Tryd.prog 85 #[.slice A n c, .int .i64 k] w fun e w' => e = .returned (.int .u8 (bit zs k)) ∧ w' = w := by
  obtain ⟨ad, rfl, hc⟩ := rd_cell h (j := k / 8) (by omega)
  have hkb := hb (zs[k / 8]?.getD 0) (by rw [List.getElem?_eq_getElem (by omega)]; exact List.getElem_mem _)
  unfold bit
  generalize zs[k / 8]?.getD 0 = x at hc hkb ⊢
  have e1 : ((k : Int) / 8).toNat = k / 8 := by omega
  have e2 : ((k : Int) % 8).toNat = k % 8 := by omega
  have e3 : (Int.tdiv (k : Int) 8) = (k : Int) / 8 := Int.tdiv_eq_ediv_of_nonneg (by omega)
  have e4 : (Int.tmod (k : Int) 8) = (k : Int) % 8 := Int.tmod_eq_emod_of_nonneg (by omega)
  have hk8 : (k : Int) / 8 < (n : Int) := by omega
  have hk0 : (0 : Int) ≤ (k : Int) / 8 := by omega
  clear h hb hn
  go_enter Tryd.func85, Tryd.ntmps85
  go_wp2
  go_ret
  exact ⟨ret_i (and_bit2 hkb k), rfl⟩
set_option maxRecDepth 100000 in
set_option maxHeartbeats 4000000 in
theorem rpack_any (v : Value) (o : Option DD) (l : List Mp) (A : Option Addr) (c : Nat) (w : World) (h : RefV w v o) (hm : MsAt w A l) (hl : l.length ≤ 1000000) (hmw : ∀ m ∈ l, m.Wf) (hwf : ∀ i s, (findC o i s).1.Wf) (h0 : checkC o l true = 0) (hv : ∀ m ∈ l, m.bits.toNat ≤ 8 * (valC o m).length) (hvb : ∀ m ∈ l, Byt (valC o m)) :
    Calls Tryd.prog 35 #[v, .slice A l.length c] w fun e w' => ∃ g, e = .returned (.tuple #[.slice (some ⟨g, 0, none⟩) (sizeC l) (sizeC l), .int .u32 0]) ∧ w.heap.size ≤ g ∧ Num.RowB w' g (packC o l) ∧ Below w.heap.size w w' := by
  have hall := check_0 h0
  have hbpos : ∀ m ∈ l, 0 ≤ m.bits := fun m hm => by have := one_bits (hall.1 m hm); omega
  have HCK := Aside0.mk (rmcheck_any v o l A c true w h hm hl hmw hwf)
  rw [h0] at HCK
  have HSZ := Aside0.mk fun W (hW : Below w.heap.size w W) => rmsize_any l A c W (hm.below hW) hl hbpos hall.2.1
  have HD := Aside0.mk h
  have HM := Aside0.mk hm
  have HMW := Aside0.mk hmw
  have HALL := Aside0.mk hall
  have HBP := Aside0.mk hbpos
  have HV := Aside0.mk hv
  have HVB := Aside0.mk hvb
  obtain ⟨n, hn⟩ : ∃ n, l.length = n := ⟨_, rfl⟩
  have HN := Aside0.mk hn
  obtain ⟨sz, hsz⟩ : ∃ sz, sizeC l = sz := ⟨_, rfl⟩
  have HSZE := Aside0.mk hsz
  have hsz9 : sz ≤ 9 := by have := hall.2.1; unfold sizeC at hsz; omega
  have hmk := fun W => Num.make_u8 sz (by omega) W
  rw [hn] at HCK HSZ hl ⊢
  rw [hsz] at HSZ ⊢
  clear h hm hmw hwf hall hbpos hv hvb hn hsz h0
  go_enter Tryd.func35, Tryd.ntmps35
  go_wp2_with (first
    | (go_at_call 31; refine HCK.out.mono ?_; rintro e w1 ⟨rfl, hb1⟩; have HB1 := Aside0.mk hb1; clear hb1)
    | (go_at_call 33; refine (HSZ.out _ HB1.out).mono ?_; rintro e w2 ⟨rfl, hb2⟩; have HB2 := Aside0.mk (HB1.out.trans (hb2.mono HB1.out.size)); clear hb2))
  clear hmk
  go_loopw [8, 9] (fun av iv wr => ∃ (k p : Nat), k ≤ n ∧ iv = .int .i64 k ∧ av = .int .i64 p ∧ Aside0 (sumC (l.take k) = p ∧ (stC o (l.take k)).length = p) ∧ Aside0 (Below w2.heap.size w2 wr) ∧ Aside0 (Num.RowB wr w2.heap.size (pkL (stC o (l.take k)) sz))) (fun _ iv _ => n - (intOf iv).toNat)
  case atStart => exact ⟨0, 0, Nat.zero_le _, rfl, rfl, ⟨by simp [sumC], by simp [stC]⟩, ⟨below_alloc (Below.refl _ _) _⟩, ⟨by rw [show stC o (l.take 0) = [] from rfl, pkL_nil]; exact Num.rowB_mz w2 sz⟩⟩
  case round =>
    obtain ⟨k, p, hk, rfl, rfl, HP, HB, HROW⟩ := hrel
    by_cases hlt : k < n
    · obtain ⟨m, hmk⟩ : ∃ m, l[k]? = some m := ⟨_, List.getElem?_eq_getElem (by rw [HN.out]; exact hlt)⟩
      have HW := Aside0.mk (HB2.out.trans (HB.out.mono HB2.out.size))
      obtain ⟨ad, rfl, y0, y1, y2⟩ := HM.out.below HW.out k m hmk
      have hmem := List.mem_of_getElem? hmk
      obtain ⟨hw1, hw2, hw3⟩ := HMW.out m hmem
      have hone := HALL.out.1 m hmem
      have hbt := one_bits hone
      obtain ⟨nb, hnb⟩ : ∃ nb : Nat, m.bits = (nb : Int) := ⟨m.bits.toNat, by omega⟩
      have hsum := sumC_take l k m hmk
      have hsle := (sumC_le HBP.out (k + 1)).2
      have h64 : p + nb ≤ 64 ∧ p + nb ≤ 8 * sz := by
        have h3 := HP.out.1
        have h4 := HALL.out.2.1
        have h5 := HSZE.out
        unfold sizeC at h5
        omega
      have hst2 : stC o (l.take (k + 1)) = stC o (l.take k) ++ bitsL (valC o m) 0 nb := by
        rw [List.take_add_one, hmk]
        simp [stC, hnb]
      have HST := Aside0.mk hst2
      have HSUM := Aside0.mk (show sumC (l.take (k + 1)) = ((p + nb : Nat) : Int) by rw [hsum, HP.out.1, hnb]; omega)
      obtain ⟨d, rfl⟩ : ∃ d, o = some d := by
        cases o with
        | some d => exact ⟨d, rfl⟩
        | none =>
          rcases one_0 hone with ⟨_, e⟩ | ⟨_, e, _⟩
          · cases e
          · simp [findC] at e
      obtain ⟨gr, L, N, rfl, hra, hro⟩ := HD.out.below HW.out
      have HGET := Aside0.mk (rget_any gr L N d hro m.ix m.sub wr hra)
      have hvz : (findC (some d) m.ix m.sub).1.val = valC (some d) m := rfl
      have hfn := HV.out m hmem
      have hvb := HVB.out m hmem
      generalize findC (some d) m.ix m.sub = r at HGET hvz
      obtain ⟨x, code⟩ := r
      obtain ⟨zs, hzs⟩ : ∃ zs, valC (some d) m = zs := ⟨_, rfl⟩
      rw [hzs] at hvz hfn hvb HST
      rw [show m.bits.toNat = nb by omega] at hfn
      have HFN := Aside0.mk hfn
      have HVB2 := Aside0.mk hvb
      simp only at hvz
      have HVZ := Aside0.mk hvz
      rw [hnb] at y2
      obtain ⟨mi, ms, mb⟩ := m
      simp only at hnb y0 y1 hw1 hw2 hw3 hbt
      have HMK := Aside0.mk hmk
      clear hst2 hsum hsle hone hmem hra hro hvz hfn hvb hzs hmk
      go_wp2_with (go_at_call 84; go_loud (refine HGET.out.mono ?_; rintro e w4 ⟨v5, rfl, ha5, ho5, hb4⟩; simp only at ha5; rw [HVZ.out] at ha5; obtain ⟨A5, c5, rfl, ha6⟩ := ha5; have HA5 := Aside0.mk (show ArgV w4 (.slice A5 zs.length c5) zs from ⟨_, _, rfl, ha6⟩); have HO5 := Aside0.mk ho5; have HB4 := Aside0.mk hb4; clear ha6 ho5 hb4))
      have HROW4 := Aside0.mk (show Num.RowB w4 w2.heap.size (pkL (stC (some d) (l.take k)) sz) from blk_below HROW.out HB4.out)
      have hg4 : w2.heap.size < wr.heap.size := blk_lt HROW.out
      have hoff : Off (fun x => x = w2.heap.size) A5 zs.length := by
        intro ad5 e hn5 h
        have h2 := HO5.out ad5.block (by rw [e]; rfl)
        have : ad5.block = w2.heap.size := h
        omega
      have HOFF := Aside0.mk hoff
      have HW4 := Aside0.mk (HW.out.trans (HB4.out.mono HW.out.size))
      clear hoff y0 y1 y2
      go_loopw [8, 12] (fun av jv wr => ∃ (j q : Nat), j ≤ nb ∧ q = p + j ∧ jv = .int .i64 j ∧ av = .int .i64 q ∧ Aside0 (Num.RowB wr w2.heap.size (pkL (stC (some d) (l.take k) ++ bitsL zs 0 j) sz)) ∧ Aside0 (Fr (fun x => x = w2.heap.size) w4 wr)) (fun _ jv _ => nb - (intOf jv).toNat)
      case atStart => exact ⟨0, p, Nat.zero_le _, rfl, rfl, rfl, ⟨by rw [show bitsL zs 0 0 = [] from rfl, List.append_nil]; exact HROW4.out⟩, ⟨Fr.refl _ _⟩⟩
      case round =>
        rename World => wi
        obtain ⟨j, q, hj, hq, rfl, rfl, HROWI, HFI⟩ := hrel
        have HWI := Aside0.mk (HW4.out.trans (HFI.out.below (B := w.heap.size) (fun jj hjj => ⟨by have := HW4.out.size; omega, fun e => by have : jj = w2.heap.size := e; have := HB2.out.size; omega⟩)))
        obtain ⟨ad', e', -, -, y2⟩ := HM.out.below HWI.out k _ HMK.out
        injection e' with e'
        subst e'
        simp only [hnb] at y2
        by_cases hltj : j < nb
        · have hq8 : q / 8 < sz := by omega
          have hbt2 : Bits (stC (some d) (l.take k) ++ bitsL zs 0 j) := by
            intro y hy
            rcases List.mem_append.1 hy with hy | hy
            · exact Num.bits_stC _ _ y hy
            · exact bits_bitsL _ _ _ y hy
          have hlen : (stC (some d) (l.take k) ++ bitsL zs 0 j).length = q := by rw [List.length_append, bitsL_length, HP.out.2, hq]
          have HRD := Aside0.mk ((argv_arg HA5.out).rd.fr HFI.out HOFF.out)
          have hbit := fun W hW => rbit_any A5 zs.length c5 zs j W hW HVB2.out rfl (by have := HFN.out; omega) (by omega)
          obtain ⟨x1, hx1⟩ : ∃ x1, bit zs j = x1 := ⟨_, rfl⟩
          have hx01 : x1 = 0 ∨ x1 = 1 := hx1 ▸ bit_01 _ _
          rw [hx1] at hbit
          have HBIT := Aside0.mk hbit
          have hbs := bitsL_succ zs 0 j
          rw [Nat.zero_add, hx1] at hbs
          have HBS := Aside0.mk hbs
          obtain ⟨t, ht⟩ : ∃ t, stC (some d) (l.take k) ++ bitsL zs 0 j = t := ⟨_, rfl⟩
          rw [ht] at hbt2 hlen HROWI
          have HTT := Aside0.mk ht
          have hrow2 : Num.RowB wi.drew w2.heap.size (pkL t sz) := HROWI.out
          obtain ⟨hc, hfz⟩ := hrow2.cell (q / 8) (by rw [pkL_length]; exact hq8)
          rw [pkL_get _ _ _ hq8] at hc
          have hlow := Num.byteP_low hbt2
          rw [hlen] at hlow
          obtain ⟨cur, hcur⟩ : ∃ cur, byteP t (q / 8) = cur := ⟨_, rfl⟩
          rw [hcur] at hc hlow
          have hjoin : bits .or .u8 cur (x1 * 2 ^ (q % 8) % 256) = cur + x1 * 2 ^ (q % 8) := Num.u8_join cur x1 (q % 8) (by omega) hlow hx01
          have HJ := Aside0.mk hjoin
          have HC := Aside0.mk hcur
          have HLEN := Aside0.mk hlen
          have HR2 := Aside0.mk hrow2
          have e1 : ((q : Int) / 8).toNat = q / 8 := by omega
          have e2 : ((q : Int) % 8).toNat = q % 8 := by omega
          have e3 : (Int.tdiv (q : Int) 8) = (q : Int) / 8 := Int.tdiv_eq_ediv_of_nonneg (by omega)
          have e4 : (Int.tmod (q : Int) 8) = (q : Int) % 8 := Int.tmod_eq_emod_of_nonneg (by omega)
          have e5 : IntKind.i64.wrap ((q : Int) / 8) = (q : Int) / 8 := by rw [IntKind.wrap_i64]; omega
          have e6 : IntKind.i64.wrap ((q : Int) % 8) = (q : Int) % 8 := by rw [IntKind.wrap_i64]; omega
          have hk8 : (q : Int) / 8 < (sz : Int) := by omega
          have hk0 : (0 : Int) ≤ (q : Int) / 8 := by omega
          have hji : (j : Int) < (nb : Int) := by omega
          have HQJ := Aside0.mk hq
          have hq64 : q < 64 := by omega
          clear hlow hjoin hcur hrow2 hlen hbt2 ht hbit hx1 hbs hx01 hq h64
          go_wp2
          go_still_tail 16, (by kernel_rfl)
          still_call (HBIT.out wi.drew HRD.out)
          repeat still_step
          refine wpStill_nil ?_
          change wpList _ _ _ _ _ wi.drew
          have HFW := Aside0.mk (HFI.out.trans (Fr.drew _ wi))
          generalize wi.drew = W2 at hc hfz HR2 HFW ⊢
          go_wp2
          go_roundw
          case rel =>
            have hput := HR2.out.put (q / 8) (cur + x1 * 2 ^ (q % 8))
            have hset := pkL_set t x1 sz (by rw [HLEN.out]; exact hq8)
            rw [HLEN.out, HC.out] at hset
            rw [hset] at hput
            refine ⟨j + 1, q + 1, by omega, by have := HQJ.out; omega, by go_num, by go_num, ⟨?_⟩, ⟨HFW.out.trans (Fr.setCell (M := fun x => x = w2.heap.size) _ _ _ (.inl rfl))⟩⟩
            rw [HBS.out, ← List.append_assoc, HTT.out, HJ.out]
            exact hput
          case measure => simp [intOf]; omega
        · obtain rfl : j = nb := by omega
          have HQJ := Aside0.mk hq
          have hji : ¬ (j : Int) < (j : Int) := by omega
          clear hq
          go_wp2
          go_roundw
          case rel =>
            refine ⟨k + 1, p + j, by omega, by go_num, by rw [HQJ.out], ⟨HSUM.out, ?_⟩, ⟨?_⟩, ⟨?_⟩⟩
            · rw [HST.out, List.length_append, bitsL_length, HP.out.2]
            · exact (HB.out.trans (HB4.out.mono HB.out.size)).trans (HFI.out.below (B := w2.heap.size) (fun jj hjj => ⟨by have := HB4.out.size; omega, fun e => by have : jj = w2.heap.size := e; omega⟩))
            · rw [HST.out]
              exact HROWI.out
          case measure => simp [intOf]; omega
    · obtain rfl : k = n := by omega
      go_wp2
      go_ret2
      refine ⟨_, rfl, HB2.out.size, ?_, HB2.out.trans (HB.out.mono HB2.out.size)⟩
      unfold packC
      rw [HSZE.out]
      have h1 := HROW.out
      rw [List.take_of_length_le (by rw [HN.out]; exact Nat.le_refl _)] at h1
      exact h1
end Go.Proofs.YtokebpeplopjhaaDoor.Mp
namespace Go.Proofs.YtokebpeplopjhaaDoor.Mp
open Go.RowKit Go.Shelf Go.Proofs.YtokebpeplopjhaaDoor.Rng Go.Proofs.YtokebpeplopjhaaDoorW.PrintWords Go.Proofs.YtokebpeplopjhaaDoorW.PrintMore Go.Proofs.YtokebpeplopjhaaDoorW.PrintLast

theorem str_row {w : World} {g n : Nat} {zs : List Int} (h : Num.RowB w g zs) (hn : zs.length = n) (hl : n ≤ 1000) : (convert 34 9 (.slice (some ⟨g, 0, none⟩) n n)).run Tryd.prog w = .ok (.string (strOfNums zs)) w := by
  subst hn
  exact str_at (Rd_C (rowB_rd h hl)) w (Below.refl _ _)
theorem str_nil (w : World) : (convert 34 9 (.slice none 0 0)).run Tryd.prog w = .ok (.string (strOfNums [])) w :=
  str_at (zs := []) ⟨rfl, Nat.zero_le _, fun h => absurd h (Nat.lt_irrefl 0)⟩ w (Below.refl _ _)
set_option maxRecDepth 100000 in
set_option maxHeartbeats 1000000 in
theorem rpack_no (v : Value) (o : Option DD) (l : List Mp) (A : Option Addr) (c : Nat) (w : World) (h : RefV w v o) (hm : MsAt w A l) (hl : l.length ≤ 1000000) (hmw : ∀ m ∈ l, m.Wf) (hwf : ∀ i s, (findC o i s).1.Wf) (h0 : checkC o l true ≠ 0) :
    Calls Tryd.prog 35 #[v, .slice A l.length c] w fun e w' => e = .returned (.tuple #[.slice none 0 0, .int .u32 (checkC o l true)]) ∧ Below w.heap.size w w' := by
  have HCK := Aside0.mk (rmcheck_any v o l A c true w h hm hl hmw hwf)
  generalize checkC o l true = q at HCK h0 ⊢
  generalize l.length = n at HCK ⊢
  have q2 : (q != 0) = true := by simpa using h0
  have q1 : (q == 0) = false := by simpa using h0
  clear h hm hmw hwf
  go_enter Tryd.func35, Tryd.ntmps35
  go_wp2_with (go_at_call 31; refine HCK.out.mono ?_; rintro e w1 ⟨rfl, hb1⟩; have HB1 := Aside0.mk hb1; clear hb1)
  go_ret2
  exact ⟨rfl, HB1.out⟩
theorem vals_two {o : Option DD} {l : List Mp} (hg : ∀ d, o = some d → Good d) (h : checkC o l true = 0) : (∀ m ∈ l, m.bits.toNat ≤ 8 * (valC o m).length) ∧ ∀ m ∈ l, Byt (valC o m) := by
  cases o with
  | none =>
    have hn : ∀ m ∈ l, False := by
      intro m hm
      rcases one_0 ((check_0 h).1 m hm) with ⟨_, e⟩ | ⟨_, e, _⟩
      · cases e
      · simp [findC] at e
    exact ⟨fun m hm => (hn m hm).elim, fun m hm => (hn m hm).elim⟩
  | some d =>
    refine ⟨vals_ok (hg d rfl) h, fun m hm => ?_⟩
    obtain ⟨x, _, he, _, hb, _⟩ := out_val (hg d rfl) ((check_0 h).1 m hm)
    unfold valC
    rw [he]
    exact hb
theorem packC_len (o : Option DD) (l : List Mp) : (packC o l).length = sizeC l := pkL_length _ _
set_option maxRecDepth 100000 in
set_option maxHeartbeats 4000000 in
theorem packs_all (l : List En) (A : Option Addr) (c : Nat) (ms : List Mp) (A2 : Option Addr) (c2 : Nat) (w : World) (hE : EsAt w A l) (hwg : ∀ e ∈ l, e.Wg ∧ Byt e.df) (hl : l.length ≤ 140737488355328) (hM : MsAt w A2 ms) (hmw : ∀ m ∈ ms, m.Wf) (hml : ms.length ≤ 140737488355328) (ht : Tbl w) :
    Calls Tryd.prog 8 #[.slice A l.length c, .slice A2 ms.length c2] w fun e w' => e = .returned (.bool true) ∧ Below w.heap.size w w' := by
  have HSZ := Aside0.mk (size_es l A c w hE hl (fun e he => (hwg e he).1.name))
  have HT := Aside0.mk ht
  have HE := Aside0.mk hE
  have HM := Aside0.mk hM
  have HMW := Aside0.mk hmw
  have HSM := Aside0.mk fun h => small_wf (l := l) h hwg
  obtain ⟨s, hs⟩ : ∃ s, szL l 0 = s := ⟨_, rfl⟩
  rw [hs] at HSZ HSM
  obtain ⟨n, hn⟩ : ∃ n, ms.length = n := ⟨_, rfl⟩
  have HN := Aside0.mk hn
  rw [hn] at hml ⊢
  obtain ⟨nl, hnl⟩ : ∃ nl, l.length = nl := ⟨_, rfl⟩
  have HNL := Aside0.mk hnl
  rw [hnl] at HSZ ⊢
  clear hE hM hmw ht hs hn hnl hwg hl
  by_cases h1 : 5000 < s
  · go_enter Tryd.func8, Tryd.ntmps8
    go_wp2_with (first
      | (go_at_call 17; refine HSZ.out.mono ?_; rintro e w1 ⟨rfl, hb1⟩; have HB1 := Aside0.mk hb1; clear hb1)
      | (go_at_call 18; refine (works_any _ (HT.out.below HB1.out)).mono ?_; rintro e w4 ⟨rfl, hb4⟩; have HB4 := Aside0.mk (HB1.out.trans (hb4.mono HB1.out.size)); clear hb4))
    go_ret
    exact ⟨rfl, HB4.out⟩
  by_cases h2 : 100 < n
  · go_enter Tryd.func8, Tryd.ntmps8
    go_wp2_with (first
      | (go_at_call 17; refine HSZ.out.mono ?_; rintro e w1 ⟨rfl, hb1⟩; have HB1 := Aside0.mk hb1; clear hb1)
      | (go_at_call 18; refine (works_any _ (HT.out.below HB1.out)).mono ?_; rintro e w4 ⟨rfl, hb4⟩; have HB4 := Aside0.mk (HB1.out.trans (hb4.mono HB1.out.size)); clear hb4))
    go_ret
    exact ⟨rfl, HB4.out⟩
  have hwf := HSM.out (by omega)
  have HWF := Aside0.mk hwf
  obtain ⟨o, ho⟩ : ∃ o, (newR l).2 = o := ⟨_, rfl⟩
  have HO := Aside0.mk ho
  have HFI := Aside0.mk (show ∀ i s, (findC o i s).1.Wf from ho ▸ newR_find hwf)
  have HGD := Aside0.mk (show ∀ d, o = some d → Good d from fun d hd => newR_good hwf (ho.trans hd))
  clear hwf ho
  by_cases hc : checkC o ms true = 0
  · have hv := vals_two HGD.out hc
    have HC := Aside0.mk hc
    have HV := Aside0.mk hv
    have h64 := (check_0 hc).2.1
    obtain ⟨sz, hsz⟩ : ∃ sz, sizeC ms = sz := ⟨_, rfl⟩
    have hsz9 : sz ≤ 9 := by unfold sizeC at hsz; omega
    have HSZE := Aside0.mk hsz
    have HPL := Aside0.mk (show (packC o ms).length = sz by rw [packC_len, hsz])
    clear hc hv h64 hsz
    go_enter Tryd.func8, Tryd.ntmps8
    go_wp2_with (first
      | (go_at_call 17; refine HSZ.out.mono ?_; rintro e w1 ⟨rfl, hb1⟩; have HB1 := Aside0.mk hb1; clear hb1)
      | (go_at_call 30; rw [← HNL.out]; refine (both_any w.heap.size l A c w1 (HE.out.below HB1.out) (fun e he => (HWF.out e he).1) (HT.out.below HB1.out) HB1.out.size o HO.out).mono ?_; rw [HNL.out]; intro e w2 hs; obtain ⟨vd, vm, rfl, h2, hb2⟩ := both_two hs; have HB2 := Aside0.mk (HB1.out.trans (hb2.mono HB1.out.size)); have HD2 := Aside0.mk h2; clear hb2 h2 hs)
      | (go_at_call 22; rw [← HN.out]; refine (Num.pack_any w.heap.size vd o ms A2 c2 w2 HD2.out.d (HT.out.below HB2.out) (HM.out.below HB2.out) (by have := HN.out; omega) HMW.out HFI.out HC.out HV.out.1).mono ?_; rw [HSZE.out, HN.out]; rintro e w3 ⟨gp, rfl, hgp, hrow, hb3⟩; have HB3 := Aside0.mk hb3; have HROW := Aside0.mk hrow; have HGP := Aside0.mk hgp; clear hb3 hrow hgp)
      | (go_at_call 32; rw [← HN.out]; refine (mplain_any ms A2 c2 w3 (HM.out.below (HB2.out.trans (HB3.out.mono HB2.out.size))) (by have := HN.out; omega)).mono ?_; rw [HN.out]; rintro e w4 ⟨A4, c4, rfl, -, hm4, hb4⟩; have HB4 := Aside0.mk hb4; have HM4 := Aside0.mk hm4; clear hb4 hm4)
      | (go_at_call 35; rw [← HN.out]; refine (rpack_any vm o ms A4 c4 w4 (HD2.out.below (HB3.out.trans (HB4.out.mono HB3.out.size))).m HM4.out (by have := HN.out; omega) HMW.out HFI.out HC.out HV.out.1 HV.out.2).mono ?_; rw [HSZE.out, HN.out]; rintro e w5 ⟨gq, rfl, hgq, hrow, hb5⟩; have HB5 := Aside0.mk hb5; have HROQ := Aside0.mk hrow; have HGQ := Aside0.mk hgq; have HROW5 := Aside0.mk (show Num.RowB w5 gp (packC o ms) from blk_below (blk_below HROW.out HB4.out) hb5); have cv1 := str_row HROW5.out HPL.out (by omega); have cv2 := str_row HROQ.out HPL.out (by omega); clear hb5 hrow hgq))
    clear cv1 cv2
    have hgg : gp < gq := by have h1 := blk_lt (blk_below HROW.out HB4.out); have h2 := HGQ.out; omega
    have HB25 := Aside0.mk (HB3.out.trans ((HB4.out.trans (HB5.out.mono HB4.out.size)).mono HB3.out.size))
    go_loopw [11] (fun iv wr => ∃ (i : Nat), i ≤ sz ∧ iv = .int .i64 i ∧ Aside0 (∃ zs, zs.length = sz ∧ Num.RowB wr gp zs) ∧ Aside0 (Fr (fun x => x = gp) w5 wr)) (fun iv _ => sz - (intOf iv).toNat)
    case atStart => exact ⟨0, Nat.zero_le _, rfl, ⟨_, HPL.out, HROW5.out⟩, ⟨Fr.refl _ _⟩⟩
    case round =>
      obtain ⟨i, hi, rfl, HZ, HF⟩ := hrel
      by_cases hlt : i < sz
      · obtain ⟨zs, hzl, hrow⟩ := HZ.out
        obtain ⟨hcl, hfz⟩ := hrow.cell i (by omega)
        have HR := Aside0.mk hrow
        have HZL := Aside0.mk hzl
        generalize zs[i]?.getD 0 = z at hcl
        have hi1 : (i : Int) < (sz : Int) := by omega
        clear hzl hrow
        go_wp2
        go_roundw
        case rel => exact ⟨i + 1, by omega, by go_num, ⟨_, by rw [List.length_set]; exact HZL.out, HR.out.put i _⟩, ⟨HF.out.trans (Fr.setCell (M := fun x => x = gp) _ _ _ (.inl rfl))⟩⟩
        case measure => simp [intOf]; omega
      · obtain rfl : i = sz := by omega
        have hi1 : ¬ (i : Int) < (i : Int) := by omega
        have HB2R := Aside0.mk (HB25.out.trans (HF.out.below (B := w2.heap.size) (fun jj hjj => ⟨by have := HB25.out.size; omega, fun e => by have h1 : jj = gp := e; have h2 := HGP.out; omega⟩)))
        have HWR := Aside0.mk (HB2.out.trans (HB2R.out.mono HB2.out.size))
        have HRQR := Aside0.mk (show Num.RowB wr gq (packC o ms) from (HF.out.block gq (blk_lt HROQ.out) (fun e => by have : gq = gp := e; omega)).trans HROQ.out)
        clear hlt
        cases o with
        | none =>
          obtain ⟨rfl, rfl⟩ := HD2.out
          go_wp2_with (first
            | (go_at_call 22; rw [← HN.out]; refine (Num.pack_any w.heap.size _ none ms A2 c2 wr (HD2.out.below HB2R.out).d (HT.out.below HWR.out) (HM.out.below HWR.out) (by have := HN.out; omega) HMW.out HFI.out HC.out HV.out.1).mono ?_; rw [HSZE.out, HN.out]; rintro e w6 ⟨gr, rfl, hgr, hrow, hb6⟩; have HB6 := Aside0.mk (HWR.out.trans (hb6.mono HWR.out.size)); have cv1 := str_row hrow HPL.out (by omega); have cv2 := str_row (show Num.RowB w6 gq (packC none ms) from blk_below HRQR.out hb6) HPL.out (by omega); clear hb6 hrow hgr)
            | (go_at_call 18; refine (works_any _ (HT.out.below HB6.out)).mono ?_; rintro e w7 ⟨rfl, hb7⟩; have HB7 := Aside0.mk (HB6.out.trans (hb7.mono HB6.out.size)); clear hb7))
          go_ret
          exact ⟨rfl, HB7.out⟩
        | some d =>
          obtain ⟨gd, gr, L, rfl, rfl, hd1, hd2, hd3⟩ := HD2.out
          have HSA := Aside0.mk fun (X : World) (hX : Below w2.heap.size w2 X) => same_any w.heap.size (.pointer (some ⟨gd, 0, none⟩)) d gr L X ⟨gd, rfl, hd1.below hX⟩ (hd2.below hX) hd3 (ref_range hd3 (HGD.out d rfl))
          clear hd1 hd2 hd3
          go_wp2_with (first
            | (go_at_call 22; rw [← HN.out]; refine (Num.pack_any w.heap.size _ (some d) ms A2 c2 wr (HD2.out.below HB2R.out).d (HT.out.below HWR.out) (HM.out.below HWR.out) (by have := HN.out; omega) HMW.out HFI.out HC.out HV.out.1).mono ?_; rw [HSZE.out, HN.out]; rintro e w6 ⟨gz, rfl, hgz, hrow, hb6⟩; have HB26 := Aside0.mk (HB2R.out.trans (hb6.mono HB2R.out.size)); have cv1 := str_row hrow HPL.out (by omega); have cv2 := str_row (show Num.RowB w6 gq (packC (some d) ms) from blk_below HRQR.out hb6) HPL.out (by omega); clear hb6 hrow hgz)
            | (go_at_call 34; refine (HSA.out _ HB26.out).mono ?_; rintro e w8 ⟨rfl, hb8⟩; have HB8 := Aside0.mk (HB2.out.trans ((HB26.out.trans (hb8.mono HB26.out.size)).mono HB2.out.size)); clear hb8)
            | (go_at_call 18; refine (works_any _ (HT.out.below HB8.out)).mono ?_; rintro e w7 ⟨rfl, hb7⟩; have HB7 := Aside0.mk (HB8.out.trans (hb7.mono HB8.out.size)); clear hb7))
          go_ret
          exact ⟨rfl, HB7.out⟩
  · have HC := Aside0.mk hc
    obtain ⟨q, hq⟩ : ∃ q, checkC o ms true = q := ⟨_, rfl⟩
    have HQ := Aside0.mk hq
    clear hc hq
    go_enter Tryd.func8, Tryd.ntmps8
    go_wp2_with (first
      | (go_at_call 17; refine HSZ.out.mono ?_; rintro e w1 ⟨rfl, hb1⟩; have HB1 := Aside0.mk hb1; clear hb1)
      | (go_at_call 30; rw [← HNL.out]; refine (both_any w.heap.size l A c w1 (HE.out.below HB1.out) (fun e he => (HWF.out e he).1) (HT.out.below HB1.out) HB1.out.size o HO.out).mono ?_; rw [HNL.out]; intro e w2 hs; obtain ⟨vd, vm, rfl, h2, hb2⟩ := both_two hs; have HB2 := Aside0.mk (HB1.out.trans (hb2.mono HB1.out.size)); have HD2 := Aside0.mk h2; clear hb2 h2 hs)
      | (go_at_call 22; rw [← HN.out]; refine (pack_no w.heap.size vd o ms A2 c2 w2 HD2.out.d (HT.out.below HB2.out) (HM.out.below HB2.out) (by have := HN.out; omega) HMW.out HFI.out HC.out).mono ?_; rw [HQ.out, HN.out]; rintro e w3 ⟨rfl, hb3⟩; have HB3 := Aside0.mk hb3; clear hb3)
      | (go_at_call 32; rw [← HN.out]; refine (mplain_any ms A2 c2 w3 (HM.out.below (HB2.out.trans (HB3.out.mono HB2.out.size))) (by have := HN.out; omega)).mono ?_; rw [HN.out]; rintro e w4 ⟨A4, c4, rfl, -, hm4, hb4⟩; have HB4 := Aside0.mk hb4; have HM4 := Aside0.mk hm4; clear hb4 hm4)
      | (go_at_call 35; rw [← HN.out]; refine (rpack_no vm o ms A4 c4 w4 (HD2.out.below (HB3.out.trans (HB4.out.mono HB3.out.size))).m HM4.out (by have := HN.out; omega) HMW.out HFI.out HC.out).mono ?_; rw [HQ.out, HN.out]; rintro e w5 ⟨rfl, hb5⟩; have HB25 := Aside0.mk (HB3.out.trans ((HB4.out.trans (hb5.mono HB4.out.size)).mono HB3.out.size)); have cv1 := str_nil w5; clear hb5))
    clear cv1
    go_loopw [11] (fun iv wr => iv = .int .i64 0 ∧ wr = w5) (fun _ _ => 0)
    case atStart => exact ⟨rfl, rfl⟩
    case round =>
      obtain ⟨rfl, rfl⟩ := hrel
      have HWR := Aside0.mk (HB2.out.trans (HB25.out.mono HB2.out.size))
      cases o with
      | none =>
        obtain ⟨rfl, rfl⟩ := HD2.out
        go_wp2_with (first
          | (go_at_call 22; rw [← HN.out]; refine (pack_no w.heap.size _ none ms A2 c2 _ (HD2.out.below HB25.out).d (HT.out.below HWR.out) (HM.out.below HWR.out) (by have := HN.out; omega) HMW.out HFI.out HC.out).mono ?_; rw [HQ.out, HN.out]; rintro e w6 ⟨rfl, hb6⟩; have HB6 := Aside0.mk (HWR.out.trans (hb6.mono HWR.out.size)); have cv1 := str_nil w6; clear hb6)
          | (go_at_call 18; refine (works_any _ (HT.out.below HB6.out)).mono ?_; rintro e w7 ⟨rfl, hb7⟩; have HB7 := Aside0.mk (HB6.out.trans (hb7.mono HB6.out.size)); clear hb7))
        go_ret
        exact ⟨rfl, HB7.out⟩
      | some d =>
        obtain ⟨gd, gr, L, rfl, rfl, hd1, hd2, hd3⟩ := HD2.out
        have HSA := Aside0.mk fun (X : World) (hX : Below w2.heap.size w2 X) => same_any w.heap.size (.pointer (some ⟨gd, 0, none⟩)) d gr L X ⟨gd, rfl, hd1.below hX⟩ (hd2.below hX) hd3 (ref_range hd3 (HGD.out d rfl))
        clear hd1 hd2 hd3
        go_wp2_with (first
          | (go_at_call 22; rw [← HN.out]; refine (pack_no w.heap.size _ (some d) ms A2 c2 _ (HD2.out.below HB25.out).d (HT.out.below HWR.out) (HM.out.below HWR.out) (by have := HN.out; omega) HMW.out HFI.out HC.out).mono ?_; rw [HQ.out, HN.out]; rintro e w6 ⟨rfl, hb6⟩; have HB26 := Aside0.mk (HB25.out.trans (hb6.mono HB25.out.size)); have cv1 := str_nil w6; clear hb6)
          | (go_at_call 34; refine (HSA.out _ HB26.out).mono ?_; rintro e w8 ⟨rfl, hb8⟩; have HB8 := Aside0.mk (HB2.out.trans ((HB26.out.trans (hb8.mono HB26.out.size)).mono HB2.out.size)); clear hb8)
          | (go_at_call 18; refine (works_any _ (HT.out.below HB8.out)).mono ?_; rintro e w7 ⟨rfl, hb7⟩; have HB7 := Aside0.mk (HB8.out.trans (hb7.mono HB8.out.size)); clear hb7))
        go_ret
        exact ⟨rfl, HB7.out⟩
end Go.Proofs.YtokebpeplopjhaaDoor.Mp
