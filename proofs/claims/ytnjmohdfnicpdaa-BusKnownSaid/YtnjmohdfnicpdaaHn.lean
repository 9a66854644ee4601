/- slices.DeleteFunc with the closure of Gone; Gone (filled by fill.py). -/
import Derived.Test.YtnjmohdfnicpdaaHm
import Derived.Lib.SliceRun
namespace Go.Proofs.Ytnjmohdfnicpdaa.Bus
open Go.RowKit Go.Shelf Go.Lib Go.Sort Go.Proofs.Ytnjmohdfnicpdaa.Frm Go.Proofs.Ytnjmohdfnicpdaa.Rng Go.Proofs.YtnjmohdfnicpdaaW.PrintWords Go.Proofs.YtnjmohdfnicpdaaW.PrintMore Go.Proofs.YtnjmohdfnicpdaaW.PrintLast

theorem zeros_toList (zs : Array Value) (n : Nat) : (Builtin.zeroCells zs n).toList = (List.replicate n zs.toList).flatten := by
  apply List.ext_getElem?
  intro i
  simp only [Builtin.zeroCells, Array.toList_map, Array.toList_range, List.getElem?_map]
  induction n generalizing i with
  | zero => simp
  | succ n ih =>
    rw [List.replicate_succ, List.flatten_cons]
    by_cases h : i < zs.size
    · rw [List.getElem?_append_left (by simpa using h), List.getElem?_range (by rw [Nat.succ_mul]; omega)]
      simp [Nat.mod_eq_of_lt h, h]
    · rw [List.getElem?_append_right (by simpa using h), ← ih]
      by_cases h2 : i < (n + 1) * zs.size
      · rw [List.getElem?_range h2, List.getElem?_range (by rw [Nat.succ_mul] at h2; simp; omega)]
        simp only [Option.map_some, Array.length_toList]
        rw [Nat.mod_eq_sub_mod (by omega)]
      · rw [List.getElem?_eq_none (by simpa using h2), List.getElem?_eq_none (by rw [Nat.succ_mul] at h2; simp; omega)]
/-- 'clear(s)' of a slice of n > 0 elements of more than a cell each. -/
theorem run_clear_rows (P : Program) (w : World) (t e ty : TypeId) (z : Value) (ht : P.underlying t = some (.slice e)) (hv : ∀ w, (zeroValue e).run P w = .ok z w) (h1 : ∀ v ∈ z.cells.toList, v.oneCell' = true) (b o n c : Nat) (hn : 0 < n)
    (hth : w.there b o (n * z.cells.size)) :
    (Builtin.clear_ #[t] ty #[.slice (some ⟨b, o, none⟩) n c]).run P w = .ok (.tuple #[]) (w.setCells b o (List.replicate n z.cells.toList).flatten) := by
  have hzc := zeros_toList z.cells n
  have hlen : (List.replicate n z.cells.toList).flatten.length = n * z.cells.size := by simp
  have hst := run_storeCells_cells (P := P) b o (List.replicate n z.cells.toList).flatten 0 w (fun j hj => by rw [Nat.add_zero]; exact (hth j (hlen ▸ hj)).1) (fun j hj => by rw [Nat.add_zero]; exact (hth j (hlen ▸ hj)).2) (by
    intro v hv'
    obtain ⟨l, hl, hvl⟩ := List.mem_flatten.1 hv'
    rw [List.eq_of_mem_replicate hl] at hvl
    exact h1 v hvl)
  simp only [Nat.add_zero] at hst
  obtain ⟨m, rfl⟩ : ∃ m, n = m + 1 := ⟨n - 1, by omega⟩
  simp [Builtin.clear_, run_underlying ht, hv, hzc, hst]
/-- Some of them, one behind the other, are written anew. -/
theorem setCells_append (W : World) (gb : Nat) : ∀ (a b : List Value) (o : Nat), W.setCells gb o (a ++ b) = (W.setCells gb o a).setCells gb (o + a.length) b := by
  intro a
  induction a generalizing W with
  | nil => intro b o; rfl
  | cons v r ih =>
    intro b o
    show (W.setCell ⟨gb, o, none⟩ v).setCells gb (o + 1) (r ++ b) = _
    rw [ih]
    show _ = ((W.setCell ⟨gb, o, none⟩ v).setCells gb (o + 1) r).setCells gb (o + (r.length + 1)) b
    rw [show o + 1 + r.length = o + (r.length + 1) by omega]
theorem BusAt.clears {g gb m c : Nat} {N : Int} (x : Sn) : ∀ (k i : Nat) (w : World) (l : List Sn), BusAt w g (.slice (some ⟨gb, 0, none⟩) m c) l N → i + k ≤ l.length →
    ∃ l', BusAt (w.setCells gb (i * 13) (List.replicate k x.cells).flatten) g (.slice (some ⟨gb, 0, none⟩) m c) l' N ∧ l'.length = l.length ∧ l'.take i = l.take i
  | 0, _, _, l, h, _ => ⟨l, h, rfl, rfl⟩
  | k + 1, i, w, l, h, hi => by
    rw [List.replicate_succ, List.flatten_cons, setCells_append, Sn.cells_len, show i * 13 + 13 = (i + 1) * 13 by omega]
    obtain ⟨l', h1, h2, h3⟩ := BusAt.clears x k (i + 1) _ _ (h.set (i := i) (by omega) x) (by rw [List.length_set]; omega)
    refine ⟨l', h1, h2.trans (List.length_set ..), ?_⟩
    have h4 := congrArg (List.take i) h3
    rw [List.take_take, List.take_take, Nat.min_eq_left (by omega), List.take_set_of_le (by omega)] at h4
    exact h4
theorem least {p : Nat → Prop} (h : ∃ k, p k) : ∃ k, p k ∧ ∀ j, j < k → ¬ p j := by
  apply Classical.byContradiction
  intro hno
  have h1 : ∀ k, ¬ p k := by
    intro k
    induction k using Nat.strongRecOn with
    | ind k ih => exact fun hk => hno ⟨k, hk, ih⟩
  obtain ⟨k, hk⟩ := h
  exact h1 k hk
theorem zero_sn (w : World) : (zeroValue 35).run Try.prog w = .ok (.agg #[.int .i64 0, .int .u16 0, .int .i64 0, .int .u8 0, .int .u8 0, .int .u8 0, .int .u8 0, .int .u8 0, .int .u8 0, .int .u8 0, .int .u8 0, .bool false, .int .i64 0]) w := by kernel_rfl
theorem BusAt.there_row {w : World} {g gb c m : Nat} {l : List Sn} {N : Int} (h : BusAt w g (.slice (some ⟨gb, 0, none⟩) m c) l N) {i k : Nat} (hk : 0 < k) (hi : i + k ≤ l.length) : w.there gb (i * 13) (k * 13) := by
  obtain ⟨gb', c', cur, he, _, hb, hlc, hsz, _⟩ := h.own (by omega)
  obtain rfl : gb = gb' := by
    simp at he
    exact he.1
  intro j hj
  refine ⟨?_, blk_frozen hb _⟩
  rw [blk_cell hb, Option.isSome_iff_exists]
  exact ⟨_, Array.getElem?_eq_getElem (by omega)⟩
theorem bus_clear {w : World} {g gb m c c1 : Nat} {l : List Sn} {N : Int} (h : BusAt w g (.slice (some ⟨gb, 0, none⟩) m c) l N) {i k : Nat} (hk : 0 < k) (hi : i + k ≤ l.length) :
    (Builtin.clear_ #[26] 0 #[.slice (some ⟨gb, i * 13, none⟩) k c1]).run Try.prog w = .ok (.tuple #[]) (w.setCells gb (i * 13) (List.replicate k sn0.cells).flatten) :=
  run_clear_rows Try.prog w _ _ _ (.agg #[.int .i64 0, .int .u16 0, .int .i64 0, .int .u8 0, .int .u8 0, .int .u8 0, .int .u8 0, .int .u8 0, .int .u8 0, .int .u8 0, .int .u8 0, .bool false, .int .i64 0]) Try.underlying26 zero_sn (by
    intro v hv
    exact sn0.cells_one v (by simpa [Value.cells, Sn.cells, sn0] using hv)) gb (i * 13) k c1 hk (h.there_row hk hi)
def keepP (nd : Int) (x : Sn) : Bool := decide (x.nd ≠ nd)
set_option maxHeartbeats 4000000 in
set_option maxRecDepth 100000 in
theorem delete_any (w : World) (g : Nat) (A : Option Addr) (c : Nat) (l : List Sn) (N : Int) (nb : Nat) (nd : Int) (h : BusAt w g (.slice A l.length c) l N) (hl : l.length ≤ 100000) (hnb : w.cell? ⟨nb, 0, none⟩ = some (.int .i64 nd)) (hne : (Value.slice A l.length c).ownBlock ≠ some nb) :
    Calls Try.prog 31 #[.slice A l.length c, .func (.func 32) #[] #[.pointer (some ⟨nb, 0, none⟩)]] w fun e w' => ∃ l', e = .returned (.slice A (l.filter (keepP nd)).length c) ∧ BusAt w' g (.slice A l.length c) l' N ∧ l'.length = l.length ∧ l'.take (l.filter (keepP nd)).length = l.filter (keepP nd) ∧ Fr (fun k => (Value.slice A l.length c).ownBlock = some k) w w' := by
  obtain ⟨n, hn⟩ : ∃ n, l.length = n := ⟨_, rfl⟩
  have HL := Aside0.mk hn
  have HB := Aside0.mk h
  have HNB := Aside0.mk hnb
  have HNE := Aside0.mk hne
  by_cases hall : ∀ x ∈ l, x.nd ≠ nd
  · have hI := Aside0.mk (index_any w g A c l N nb nd h hl hnb (-1) (.inl ⟨rfl, hall⟩))
    have hf : l.filter (keepP nd) = l := List.filter_eq_self.2 (fun x hx => by simp [keepP, hall x hx])
    rw [hf, hn]
    rw [hn] at hI HB HNE hl
    clear h hnb hne hall hf
    go_enter Try.func31, Try.ntmps31
    go_wp2_with (fail)
    refine hI.out.mono ?_
    rintro e w1 ⟨rfl, hb⟩
    have HW := Aside0.mk hb
    clear hb hI
    go_wp2_with (fail)
    go_ret
    exact ⟨l, rfl, HB.out.fr (Fr.of_below (M := fun _ => False) HW.out) (fun h => h) (fun _ _ h => h), HL.out, by rw [← HL.out, List.take_length], Fr.of_below HW.out⟩
  · obtain ⟨k0, hk0, hk1, hk2⟩ : ∃ k : Nat, k < l.length ∧ (nth l k).nd = nd ∧ ∀ j, j < k → (nth l j).nd ≠ nd := by
      have h1 : ∃ k, k < l.length ∧ (nth l k).nd = nd := by
        apply Classical.byContradiction
        intro hno
        apply hall
        intro x hx hxn
        obtain ⟨k, hk, rfl⟩ := List.getElem_of_mem hx
        exact hno ⟨k, hk, by rw [nth_get hk]; exact hxn⟩
      obtain ⟨k, ⟨h2, h3⟩, h4⟩ := least h1
      exact ⟨k, h2, h3, fun j hj hjn => h4 j hj ⟨by omega, hjn⟩⟩
    have hI := Aside0.mk (index_any w g A c l N nb nd h hl hnb k0 (.inr ⟨k0, rfl, hk0, hk1, hk2⟩))
    have HF := Aside0.mk (show l.take k0 = (l.take (k0 + 1)).filter (keepP nd) by
      have h1 : (l.take k0).filter (keepP nd) = l.take k0 := List.filter_eq_self.2 (fun x hx => by
        obtain ⟨j, hj, rfl⟩ := List.getElem_of_mem hx
        rw [List.length_take] at hj
        have h2 := hk2 j (by omega)
        rw [nth_get (by omega)] at h2
        simpa [keepP] using h2)
      rw [List.take_add_one, get_nth hk0, List.filter_append, h1]
      simp [keepP, hk1])
    rw [hn] at hI HB HNE hl hk0
    rw [hn]
    obtain ⟨gb, c', cur, he, -⟩ := HB.out.own (by rw [hn]; omega)
    obtain ⟨rfl, hcc⟩ : A = some ⟨gb, 0, none⟩ ∧ c = c' := by
      simp at he
      exact ⟨he.1, he.2.2⟩
    clear h hnb hne hall he hcc hk1 hk2 hn
    go_enter Try.func31, Try.ntmps31
    go_wp2_with (fail)
    refine hI.out.mono ?_
    rintro e w1 ⟨rfl, hb⟩
    have HW := Aside0.mk hb
    have hkm : ((k0 : Int) == -1) = false := by rw [beq_eq_false_iff_ne]; omega
    clear hb hI
    go_wp2_with (fail)
    go_loopw [5, 6] (fun iv jv wr => ∃ (i j : Nat) (l1 : List Sn), iv = .int .i64 i ∧ jv = .int .i64 j ∧ i < j ∧ j ≤ n ∧ Aside0 (BusAt wr g (.slice (some ⟨gb, 0, none⟩) n c) l1 N) ∧ Aside0 (l1.length = n) ∧ Aside0 (l1.take i = (l.take j).filter (keepP nd)) ∧ Aside0 (l1.drop j = l.drop j) ∧ Aside0 (Fr (fun k => k = gb) w wr)) (fun _ jv _ => n - (intOf jv).toNat)
    case atStart => exact ⟨k0, k0 + 1, l, rfl, by go_num, by omega, by omega, ⟨HB.out.fr (Fr.of_below (M := fun _ => False) HW.out) (fun h => h) (fun _ _ h => h)⟩, HL, HF, ⟨rfl⟩, ⟨Fr.of_below HW.out⟩⟩
    case round =>
      obtain ⟨i, j, l1, rfl, rfl, hij, hj, HB1, HL1, HT1, HD1, HFR⟩ := hrel
      by_cases hjn : j < n
      · obtain ⟨x, hx⟩ : ∃ x, nth l1 j = x := ⟨_, rfl⟩
        obtain ⟨f0, f1, f2, f3, f4, f5, f6, f7, f8, f9, f10, f11, f12⟩ := hx ▸ HB1.out.cells (i := j) (by rw [HL1.out]; exact hjn)
        have HX := Aside0.mk hx
        clear hx
        have hcw := below_alloc (Below.refl wr.heap.size wr) (.cells #[.int .i64 x.nd, .int .u16 x.id, .int .i64 x.len, .int .u8 x.x0, .int .u8 x.x1, .int .u8 x.x2, .int .u8 x.x3, .int .u8 x.x4, .int .u8 x.x5, .int .u8 x.x6, .int .u8 x.x7, .bool x.rem, .int .i64 x.num] 35)
        have hcn := heap_alloc_new wr (.cells #[.int .i64 x.nd, .int .u16 x.id, .int .i64 x.len, .int .u8 x.x0, .int .u8 x.x1, .int .u8 x.x2, .int .u8 x.x3, .int .u8 x.x4, .int .u8 x.x5, .int .u8 x.x6, .int .u8 x.x7, .bool x.rem, .int .i64 x.num] 35)
        have HCW := Aside0.mk hcw
        have HCN := Aside0.mk hcn
        have HNB1 := Aside0.mk (show (wr.alloc (.cells #[.int .i64 x.nd, .int .u16 x.id, .int .i64 x.len, .int .u8 x.x0, .int .u8 x.x1, .int .u8 x.x2, .int .u8 x.x3, .int .u8 x.x4, .int .u8 x.x5, .int .u8 x.x6, .int .u8 x.x7, .bool x.rem, .int .i64 x.num] 35)).cell? ⟨nb, 0, none⟩ = some (.int .i64 nd) from pw_cell_below hcw (HFR.out.cell HNB.out (fun e => HNE.out (by rw [show nb = gb from e]; rfl))))
        clear hcw hcn
        go_wp2_with (fail)
        refine (gone1_any _ nb x nd HNB1.out).mono ?_
        rintro e w2 ⟨rfl, hb⟩
        have hc2 := blk_below HCN.out hb
        have HW2 := Aside0.mk (HCW.out.trans (hb.mono HCW.out.size))
        clear hb f0 f1 f2 f3 f4 f5 f6 f7 f8 f9 f10 f11 f12 HCW HCN HNB1
        have hbus2 := HB1.out.fr (Fr.of_below (M := fun _ => False) HW2.out) (fun h => h) (fun _ _ h => h)
        have HFR2 := Aside0.mk (show Fr (fun k => k = gb) w w2 from HFR.out.trans (Fr.of_below HW2.out))
        obtain ⟨f0, f1, f2, f3, f4, f5, f6, f7, f8, f9, f10, f11, f12, f13⟩ := sn_at (s := x) hc2
        have HB2 := Aside0.mk hbus2
        have hjl : j < l.length := by rw [HL.out]; exact hjn
        have hxl : l[j]? = some x := by
          have h1 := congrArg (fun z => z[0]?) HD1.out
          simp only [List.getElem?_drop, Nat.add_zero] at h1
          rw [← h1, get_nth (by rw [HL1.out]; exact hjn), HX.out]
        have HTJ := Aside0.mk (show (l.take (j + 1)).filter (keepP nd) = (l.take j).filter (keepP nd) ++ (if x.nd = nd then [] else [x]) by
          rw [List.take_add_one, hxl, List.filter_append]
          by_cases h : x.nd = nd <;> simp [keepP, h])
        clear hc2 hbus2 hxl hjl
        by_cases hq : x.nd = nd
        · rw [decide_eq_true hq]
          have HT2 := Aside0.mk (show l1.take i = (l.take (j + 1)).filter (keepP nd) by rw [HTJ.out, if_pos hq, List.append_nil, HT1.out])
          have HD2 := Aside0.mk (show l1.drop (j + 1) = l.drop (j + 1) by rw [← List.drop_drop, ← List.drop_drop, HD1.out])
          clear hq HTJ
          go_wp2_with (fail)
          go_roundw
          case rel => exact ⟨i, j + 1, l1, rfl, by go_num, by omega, by omega, HB2, HL1, HT2, HD2, HFR2⟩
          case measure => simp [intOf]; omega
        · rw [decide_eq_false hq]
          have HS2 := Aside0.mk (HB2.out.set (i := i) (by rw [HL1.out]; omega) x)
          have HTH := Aside0.mk (HB2.out.there (i := i) (by rw [HL1.out]; omega))
          have HT2 := Aside0.mk (show (l1.set i x).take (i + 1) = (l.take (j + 1)).filter (keepP nd) by
            rw [HTJ.out, if_neg hq, ← HT1.out, List.take_add_one, List.take_set_of_le (Nat.le_refl _), List.getElem?_set_self (by rw [HL1.out]; omega)]
            rfl)
          have HD2 := Aside0.mk (show (l1.set i x).drop (j + 1) = l.drop (j + 1) by rw [List.drop_set_of_lt (by omega), ← List.drop_drop, ← List.drop_drop, HD1.out])
          have HL2 := Aside0.mk (show (l1.set i x).length = n by rw [List.length_set]; exact HL1.out)
          have HFR3 := Aside0.mk (HFR2.out.trans (fr_setCells gb x.cells (i * 13) w2))
          have ei : ((i : Int)).toNat = i := by omega
          have bi : (i : Int) < (n : Int) := by omega
          have one := Aside0.mk x.cells_one
          clear hq HTJ
          go_wp2_with ((with_reducible refine gate_store rfl ?_); go_loud (refine wpList_store_mid rfl 35 _ _ rfl gb (i * 13) #[.int .i64 x.nd, .int .u16 x.id, .int .i64 x.len, .int .u8 x.x0, .int .u8 x.x1, .int .u8 x.x2, .int .u8 x.x3, .int .u8 x.x4, .int .u8 x.x5, .int .u8 x.x6, .int .u8 x.x7, .bool x.rem, .int .i64 x.num] rfl rfl HTH.out size_sn (all_oneCell_toArray one.out) ?_))
          go_roundw
          case rel => exact ⟨i + 1, j + 1, l1.set i x, by go_num, by go_num, by omega, by omega, HS2, HL2, HT2, HD2, HFR3⟩
          case measure => simp [intOf]; omega
      · obtain rfl : j = n := by omega
        obtain ⟨m, hm⟩ : ∃ m, j - i = m := ⟨_, rfl⟩
        have HCL := Aside0.mk (BusAt.clears sn0 m i wr l1 HB1.out (by rw [HL1.out]; omega))
        have hclr := bus_clear (c1 := c - i) HB1.out (i := i) (k := m) (by omega) (by rw [HL1.out]; omega)
        have HFC := Aside0.mk (HFR.out.trans (fr_setCells gb (List.replicate m sn0.cells).flatten (i * 13) wr))
        have hic : i < c := by
          obtain ⟨_, _, _, he, _, _, h1, _⟩ := HB1.out.own (by rw [HL1.out]; omega)
          simp at he
          rw [HL1.out] at h1
          omega
        have hci : ¬ c = i := by omega
        have hic : i ≤ c := by omega
        have HFI := Aside0.mk (show l.filter (keepP nd) = l1.take i by rw [HT1.out, ← HL.out, List.take_length])
        generalize wr.setCells gb (i * 13) (List.replicate m sn0.cells).flatten = W3 at HCL HFC hclr
        go_wp2_with (fail)
        go_ret
        obtain ⟨l', hb', hl', ht'⟩ := HCL.out
        have hfl : (l.filter (keepP nd)).length = i := by rw [HFI.out, List.length_take, HL1.out]; omega
        rw [hfl]
        exact ⟨l', rfl, hb', hl'.trans HL1.out, by rw [HFI.out]; exact ht', HFC.out.mono (fun k hk => by rw [hk]; rfl)⟩
end Go.Proofs.Ytnjmohdfnicpdaa.Bus
