/- The document's Gone (filled by fill.py). -/
import Derived.Test.YtnjmohdfnicpdaaHs
namespace Go.Proofs.Ytnjmohdfnicpdaa.Bus
open Go.RowKit Go.Shelf Go.Lib Go.Sort Go.Proofs.Ytnjmohdfnicpdaa.Frm Go.Proofs.Ytnjmohdfnicpdaa.Rng Go.Proofs.YtnjmohdfnicpdaaW.PrintWords Go.Proofs.YtnjmohdfnicpdaaW.PrintMore Go.Proofs.YtnjmohdfnicpdaaW.PrintLast

theorem info_rsn : (Try.prog.info? 72).map (fun i => (i.zero, i.size, i.bytes)) = some (some (.agg #[.int .i64 0, .int .u16 0, .int .i64 0, .int .u8 0, .int .u8 0, .int .u8 0, .int .u8 0, .int .u8 0, .int .u8 0, .int .u8 0, .int .u8 0, .bool false, .int .i64 0]), 13, 48) := by kernel_rfl
/-- A row made lies as one that is read. -/
theorem ref_row {w : World} {base gm : Nat} {v : Value} {l : List Sn} {N : Int} {ok : Nat → Prop} (hR : Kd.R kSn 72 w base ok v l) (hg : w.heap[gm]? = some (.cells #[v, .int .i64 N] 49 (0, 0))) (hb : gm < base) : ∃ A c, v = .slice A l.length c ∧ RefAt w gm A c l N ∧ ∀ ad, A = some ad → base ≤ ad.block := by
  obtain ⟨A, c, rfl, hlc, hC⟩ := Kd.R_reads hR
  obtain ⟨hok, inner, ⟨hil, ho⟩, hr⟩ := hR
  have hA : ∀ ad, A = some ad → base ≤ ad.block ∧ ad = ⟨ad.block, ad.off, none⟩ := fun ad e => by
    rcases ho with ⟨h0, _⟩ | ⟨gb, _, _, he, hb0, _⟩
    · subst e
      cases h0
    · subst e
      simp at he
      obtain ⟨rfl, -⟩ := he
      exact ⟨hb0, rfl⟩
  exact ⟨A, c, rfl, ⟨hg, hlc, hC, fun _ ad e => by have := (hA ad e).1; omega, fun ad e => (hA ad e).2⟩, fun ad e => (hA ad e).1⟩
theorem R_setfar {w : World} {base gm j : Nat} {v u : Value} {l : List Sn} {ok : Nat → Prop} (hR : Kd.R kSn 72 w base ok v l) (hb : gm < base) : Kd.R kSn 72 (w.setCell ⟨gm, j, none⟩ u) base ok v l :=
  Kd.R_mono (Kd.R_far (p := ⟨gm, j, none⟩) (Kd.R_bound hR) (fun k hk => by have := hk.2.1; simp only; omega) u) (fun k hk => hk.1)
set_option maxHeartbeats 4000000 in
set_option maxRecDepth 100000 in
theorem rgone_any (w : World) (gm : Nat) (A : Option Addr) (c : Nat) (l : List Sn) (N : Int) (nd : Int) (h : RefAt w gm A c l N) (hl : l.length ≤ 100000) :
    Calls Try.prog 29 #[.pointer (some ⟨gm, 0, none⟩), .int .i64 nd] w fun e w' => e = .returned (.int .i64 ((l.length - (l.filter (keepP nd)).length : Nat) : Int)) ∧ ∃ A' c', RefAt w' gm A' c' (l.filter (keepP nd)) N ∧ RTurn gm A A' w w' := by
  have HH := Aside0.mk h
  have HL := Aside0.mk h.lt
  have hfl : (l.filter (keepP nd)).length ≤ l.length := List.length_filter_le ..
  obtain ⟨n, hn⟩ : ∃ n, l.length = n := ⟨_, rfl⟩
  obtain ⟨m, hm⟩ : ∃ m, (l.filter (keepP nd)).length = m := ⟨_, rfl⟩
  have HN := Aside0.mk hn
  have HM := Aside0.mk hm
  rw [hn] at hl hfl
  rw [hm] at hfl
  rw [hn, hm]
  have wr0 : ((n : Int) - (m : Int)) = ((n - m : Nat) : Int) := by omega
  clear h hn hm
  go_enter Try.func29, Try.ntmps29
  go_wp2_with (fail)
  go_loopw [5, 6] (fun v5 i wr => ∃ (k : Nat), i = .int .i64 k ∧ k ≤ n ∧ Aside0 (Kd.R kSn 72 wr w.heap.size (fun b => w.heap.size ≤ b) v5 ((l.take k).filter (keepP nd))) ∧ Aside0 (Below w.heap.size w wr)) (fun _ i _ => n - (intOf i).toNat)
  case atStart => exact ⟨0, rfl, Nat.zero_le _, ⟨Kd.R_nil _ _ _ _ _⟩, ⟨Below.refl _ _⟩⟩
  case round =>
    obtain ⟨k, rfl, hk, HR, HW⟩ := hrel
    have hr := HH.out.below HW.out
    have z0 := hr.cell0
    have zf := hr.frozen 0
    rw [HN.out] at z0
    by_cases hkn : k < n
    · obtain ⟨x, hx⟩ : ∃ x, nth l k = x := ⟨_, rfl⟩
      obtain ⟨b, o, hA, hc⟩ := hr.cells (i := k) (by rw [HN.out]; exact hkn)
      rw [hx] at hc
      subst hA
      obtain ⟨f0, f1, f2, f3, f4, f5, f6, f7, f8, f9, f10, f11, f12⟩ := hc
      have HT := Aside0.mk (show (l.take (k + 1)).filter (keepP nd) = (l.take k).filter (keepP nd) ++ (if x.nd = nd then [] else [x]) by
        rw [List.take_add_one, get_nth (by rw [HN.out]; exact hkn), hx, List.filter_append]
        by_cases h : x.nd = nd <;> simp [keepP, h])
      have hacc : ((l.take k).filter (keepP nd)).length ≤ 100000 := Nat.le_trans (List.length_filter_le ..) (by rw [List.length_take]; omega)
      have HACC := Aside0.mk hacc
      have HSZ := Aside0.mk HW.out.size
      clear hr hx hacc
      by_cases hq : x.nd = nd
      · have HT1 := Aside0.mk (show (l.take (k + 1)).filter (keepP nd) = (l.take k).filter (keepP nd) by rw [HT.out, if_pos hq, List.append_nil])
        have hqb : (x.nd == nd) = true := by simpa using hq
        have hqn : (x.nd != nd) = false := by simpa using hq
        clear hq HT
        go_wp2_with (fail)
        go_roundw
        case rel => exact ⟨k + 1, by go_num, by omega, ⟨HT1.out ▸ HR.out⟩, HW⟩
        case measure => simp [intOf]; omega
      · have HT1 := Aside0.mk (show (l.take (k + 1)).filter (keepP nd) = (l.take k).filter (keepP nd) ++ [x] by rw [HT.out, if_neg hq])
        have hqb : (x.nd == nd) = false := by simpa using hq
        have hqn : (x.nd != nd) = true := by simpa using hq
        clear hq HT
        go_wp2_with ((with_reducible refine gate_builtin (b := .append) (xs := #[.tmp 27, .tmp 35]) rfl ?_); at_builtin; go_loud (refine Kd.R_append kSn (w0 := w) w.heap.size rfl (.tmp 27) (.tmp 35) 47 72 (.agg #[.int .i64 0, .int .u16 0, .int .i64 0, .int .u8 0, .int .u8 0, .int .u8 0, .int .u8 0, .int .u8 0, .int .u8 0, .int .u8 0, .int .u8 0, .bool false, .int .i64 0]) 48 rfl Try.underlying47 info_rsn rfl (by decide) (by decide) _ ((l.take k).filter (keepP nd)) x [.int .i64 x.nd, .int .u16 x.id, .int .i64 x.len, .int .u8 x.x0, .int .u8 x.x1, .int .u8 x.x2, .int .u8 x.x3, .int .u8 x.x4, .int .u8 x.x5, .int .u8 x.x6, .int .u8 x.x7, .bool x.rem, .int .i64 x.num] (fun b => w.heap.size ≤ b) (fun _ => False) rfl rfl rfl (fun _ hk => hk.elim) (fun k hk => Nat.le_trans HSZ.out hk) HR.out HW.out HSZ.out (by have := HACC.out; omega) ?_; intro v1 w2 hown hb hg hat; have HR2 := Aside0.mk hown; have HW2 := Aside0.mk hb; clear hown hb hg hat))
        go_roundw
        case rel => exact ⟨k + 1, by go_num, by omega, ⟨HT1.out ▸ HR2.out⟩, HW2⟩
        case measure => simp [intOf]; omega
    · obtain rfl : k = n := by omega
      have hRn := HR.out
      rw [show l.take k = l by rw [← HN.out, List.take_length]] at hRn
      obtain ⟨A1, c1, rfl, -⟩ := Kd.R_reads hRn
      have HRN := Aside0.mk hRn
      have HB0 := Aside0.mk hr.blk
      rw [HM.out]
      clear hr hRn
      go_wp2_with (fail)
      go_ret
      have h3 := HRN.out
      rw [HM.out] at h3
      obtain ⟨A2, c2, -, href, hnew⟩ := ref_row (R_setfar (j := 0) (u := .slice A1 m c1) h3 HL.out) (blk_put HB0.out 0 _ rfl) HL.out
      exact ⟨rfl, A2, c2, href, ⟨(Fr.of_below HW.out).trans (Fr.setCell wr ⟨gm, 0, none⟩ _ (.inl rfl)), fun ad e => .inr (hnew ad e)⟩⟩
end Go.Proofs.Ytnjmohdfnicpdaa.Bus
