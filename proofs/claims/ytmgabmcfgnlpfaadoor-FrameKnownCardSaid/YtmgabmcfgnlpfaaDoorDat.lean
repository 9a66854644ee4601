/- Data, of both. -/
import Derived.Test.YtmgabmcfgnlpfaaDoorMak
import Derived.Test.YtmgabmcfgnlpfaaDoorRgt
namespace Go.Proofs.YtmgabmcfgnlpfaaDoor.Frm
open Go.RowKit Go.Proofs.YtmgabmcfgnlpfaaDoorW.PrintWords Go.Proofs.YtmgabmcfgnlpfaaDoorW.PrintMore Go.Proofs.YtmgabmcfgnlpfaaDoorW.PrintLast

abbrev kB : Kd Int := Kd.int .u8
theorem Rd_C {w : World} {A : Option Addr} {zs : List Int} (hl : zs.length ≤ 9223372036854775807) (h : Rd w A zs) : kB.C w A zs.length zs := by
  refine ⟨rfl, hl, fun hn => ?_⟩
  obtain ⟨ad, e, hc⟩ := h hn
  refine ⟨ad, e, fun j p hj => ⟨[.int .u8 p], rfl, rfl, fun i u hu => ?_⟩⟩
  have hjl := (List.getElem?_eq_some_iff.1 hj).1
  cases i with
  | zero => simp at hu; subst hu; have := hc j hjl; rw [hj] at this; simpa [Kd.int, Kd.scalar] using this
  | succ i => simp at hu
theorem C_Rd {w : World} {A : Option Addr} {zs : List Int} (h : kB.C w A zs.length zs) : Rd w A zs := by
  obtain ⟨_, _, h2⟩ := Kd.reads_of_C (enc := Value.int .u8) (d := (0 : Int)) (h1 := fun _ => rfl) h
  intro hn
  obtain ⟨ad, e, hc⟩ := h2 hn
  exact ⟨ad, e, fun j hj => by rw [hc j hj, List.getD_eq_getElem?_getD]⟩
theorem info_u8 : (Tryd.prog.info? 5).map (fun i => (i.zero, i.size, i.bytes)) = some (some (.int .u8 0), 1, 1) := by kernel_rfl
/-- What Data tells of a frame. -/
def DataOf (f : Fm) (l : List Int) : Prop := (Rt f ∧ f.rem = false ∧ l = f.d.take f.len.toNat) ∨ (¬ (Rt f ∧ f.rem = false) ∧ l = [])
theorem data_one {f : Fm} {l m : List Int} (h : DataOf f l) (k : DataOf f m) : l = m := by
  rcases h with ⟨a, b, c⟩ | ⟨a, b⟩ <;> rcases k with ⟨a', b', c'⟩ | ⟨a', b'⟩
  · exact c.trans c'.symm
  · exact absurd ⟨a, b⟩ a'
  · exact absurd ⟨a', b'⟩ a
  · exact b.trans b'.symm
theorem row_rd {W : World} {g : Nat} {t : TypeId} {i n : Int} {d : List Int} {b : Bool} (m : Nat) (h : W.heap[g]? = some (.cells (Fm.cells ⟨i, n, d, b⟩) t (0, 0))) (hm : m ≤ d.length) : Rd W (some ⟨g, 2, none⟩) (d.take m) := by
  intro _
  refine ⟨_, rfl, fun j hj => ?_⟩
  have hjm : j < m := by simp at hj; omega
  rw [show (⟨g, 2, none⟩ : Addr).add j = ⟨g, 2 + j, none⟩ by simp [Addr.add], blk_cell h (2 + j), fm_len _ _ _ _ j (by omega), List.getElem?_take, if_pos hjm]
set_option maxHeartbeats 2000000 in
set_option maxRecDepth 100000 in
theorem fdata_any (i n x0 x1 x2 x3 x4 x5 x6 x7 : Int) (b : Bool) (w : World) :
    Calls Tryd.prog 20 #[.agg #[.int .u16 i, .int .i64 n, .int .u8 x0, .int .u8 x1, .int .u8 x2, .int .u8 x3, .int .u8 x4, .int .u8 x5, .int .u8 x6, .int .u8 x7, .bool b]] w fun e w' => ∃ v l, e = .returned v ∧ DataOf ⟨i, n, [x0, x1, x2, x3, x4, x5, x6, x7], b⟩ l ∧ Kd.R kB 5 w' w.heap.size (fun _ => True) v l ∧ Below w.heap.size w w' := by
  have HR := fun W => fright_any i n x0 x1 x2 x3 x4 x5 x6 x7 b W
  obtain ⟨d, hd⟩ : ∃ d, [x0, x1, x2, x3, x4, x5, x6, x7] = d := ⟨_, rfl⟩
  have hdl : d.length = 8 := by rw [← hd]; rfl
  simp only [hd] at HR ⊢
  have HD := Aside0.mk hd
  clear hd
  by_cases hr : Rt ⟨i, n, d, b⟩
  · obtain ⟨h1, h2, h3, _⟩ := id hr
    simp only at h1 h2 h3
    have HRT := Aside0.mk hr
    clear hr
    rcases b with _ | _
    · obtain ⟨m, rfl⟩ := Int.eq_ofNat_of_zero_le h2
      have HDO := Aside0.mk (show DataOf ⟨i, m, d, false⟩ (d.take m) from .inl ⟨HRT.out, rfl, rfl⟩)
      have hml : (d.take m).length = m := by simp; omega
      obtain ⟨l, hl⟩ : ∃ l, d.take m = l := ⟨_, rfl⟩
      rw [hl] at HDO hml
      have HL := Aside0.mk hl
      clear hl
      go_enter Tryd.func20, Tryd.ntmps20
      go_wp2_with (first
        | (go_at_call 11; refine (HR _).mono ?_; rintro e w1 ⟨(⟨rfl, _⟩ | ⟨rfl, hno⟩), hbw⟩; rotate_left; exact absurd HRT.out hno; clear HR; obtain ⟨hb0, hbw2⟩ := after_call hbw; obtain ⟨f0, f1, _, _, _, _, _, _, _, _, f10, _⟩ := fm_lit hb0; have HB0 := Aside0.mk hb0; have HBW := Aside0.mk hbw2; clear hb0 hbw hbw2)
        | ((with_reducible refine gate_dst (N := 14) rfl ?_); refine Kd.R_append_row (Value.int .u8) (0 : Int) (h1 := fun _ => rfl) (w0 := w) w.heap.size rfl _ _ _ 5 (.int .u8 0) 1 rfl Tryd.underlying36 info_u8 rfl (by decide) _ [] l (some ⟨w.heap.size, 2, none⟩) m 8 (fun _ => True) rfl rfl (fun _ _ => trivial) (Kd.R_nil _ _ _ _ _) (by have h := Rd_C (zs := l) (by omega) (HL.out ▸ row_rd (i := i) (n := m) (d := d) (b := false) m (by rw [← HD.out]; exact HB0.out) (by omega)); rwa [hml] at h) HBW.out HBW.out.size (by simp; omega) ?_; intro v1 w2 hown hb hg hat; have HO := Aside0.mk hown; have HB2 := Aside0.mk hb; clear hown hb hg hat))
      go_ret
      exact ⟨_, l, rfl, HDO.out, HO.out, HB2.out⟩
    · have HDO := Aside0.mk (show DataOf ⟨i, n, d, true⟩ [] from .inr ⟨fun h => by simp at h, rfl⟩)
      go_enter Tryd.func20, Tryd.ntmps20
      go_wp2_with (go_at_call 11; refine (HR _).mono ?_; rintro e w1 ⟨(⟨rfl, _⟩ | ⟨rfl, hno⟩), hbw⟩; rotate_left; exact absurd HRT.out hno; clear HR; obtain ⟨hb0, hbw2⟩ := after_call hbw; obtain ⟨f0, f1, _, _, _, _, _, _, _, _, f10, _⟩ := fm_lit hb0; have HBW := Aside0.mk hbw2; clear hb0 hbw hbw2)
      go_ret
      exact ⟨_, [], rfl, HDO.out, Kd.R_nil _ _ _ _ _, HBW.out⟩
  · have HRT := Aside0.mk hr
    have HDO := Aside0.mk (show DataOf ⟨i, n, d, b⟩ [] from .inr ⟨fun h => hr h.1, rfl⟩)
    clear hr
    go_enter Tryd.func20, Tryd.ntmps20
    go_wp2_with (go_at_call 11; refine (HR _).mono ?_; rintro e w1 ⟨(⟨rfl, hyes⟩ | ⟨rfl, _⟩), hbw⟩; exact absurd hyes HRT.out; clear HR; have HBW := Aside0.mk (after_call hbw).2; clear hbw)
    go_ret
    exact ⟨_, [], rfl, HDO.out, Kd.R_nil _ _ _ _ _, HBW.out⟩
set_option maxHeartbeats 2000000 in
set_option maxRecDepth 100000 in
theorem rdata_any (i n x0 x1 x2 x3 x4 x5 x6 x7 : Int) (b : Bool) (w : World) :
    Calls Tryd.prog 22 #[.agg #[.int .u16 i, .int .i64 n, .int .u8 x0, .int .u8 x1, .int .u8 x2, .int .u8 x3, .int .u8 x4, .int .u8 x5, .int .u8 x6, .int .u8 x7, .bool b]] w fun e w' => ∃ v l, e = .returned v ∧ DataOf ⟨i, n, [x0, x1, x2, x3, x4, x5, x6, x7], b⟩ l ∧ Kd.R kB 5 w' w.heap.size (fun k => w.heap.size < k) v l ∧ Below w.heap.size w w' := by
  have HR := fun W => rright_any i n x0 x1 x2 x3 x4 x5 x6 x7 b W
  obtain ⟨d, hd⟩ : ∃ d, [x0, x1, x2, x3, x4, x5, x6, x7] = d := ⟨_, rfl⟩
  have hdl : d.length = 8 := by rw [← hd]; rfl
  simp only [hd] at HR ⊢
  have HD := Aside0.mk hd
  clear hd
  by_cases hr : Rt ⟨i, n, d, b⟩
  · obtain ⟨h1, h2, h3, _⟩ := id hr
    simp only at h1 h2 h3
    have HRT := Aside0.mk hr
    clear hr
    rcases b with _ | _
    · obtain ⟨m, rfl⟩ := Int.eq_ofNat_of_zero_le h2
      have HDO := Aside0.mk (show DataOf ⟨i, m, d, false⟩ (d.take m) from .inl ⟨HRT.out, rfl, rfl⟩)
      go_enter Tryd.func22, Tryd.ntmps22
      go_wp2_with (go_at_call 21; refine (HR _).mono ?_; rintro e w1 ⟨(⟨rfl, _⟩ | ⟨rfl, hno⟩), hbw⟩; rotate_left; exact absurd HRT.out hno; clear HR; obtain ⟨hb0, hbw2⟩ := after_call hbw; obtain ⟨f0, f1, _, _, _, _, _, _, _, _, f10, _⟩ := fm_lit hb0; have HB0 := Aside0.mk hb0; have HBW := Aside0.mk hbw2; clear hb0 hbw hbw2)
      go_loopw [3, 4] (fun v j wr => ∃ k : Nat, k ≤ m ∧ j = .int .i64 k ∧ Aside0 (Kd.R kB 5 wr w.heap.size (fun k => w.heap.size < k) v (d.take k)) ∧ Aside0 (wr.heap[w.heap.size]? = some (.cells (Fm.cells ⟨i, m, d, false⟩) 25 (0, 0))) ∧ Aside0 (Below w.heap.size w wr)) (fun _ j _ => m - (intOf j).toNat)
      case atStart =>
        exact ⟨0, Nat.zero_le _, rfl, ⟨Kd.R_nil _ _ _ _ _⟩, ⟨by rw [← HD.out]; exact HB0.out⟩, HBW⟩
      case round =>
        obtain ⟨k, hk, rfl, HO, HB, HW⟩ := hrel
        have hb1 := HB.out
        rw [← HD.out] at hb1
        obtain ⟨_, g1, _, _, _, _, _, _, _, _, _, _⟩ := fm_at hb1
        clear hb1
        by_cases hlt : k < m
        · have hcl := blk_cell HB.out (2 + k)
          rw [fm_len _ _ _ _ k (by omega)] at hcl
          have hkd : k < d.length := by omega
          have HX := Aside0.mk (show d.take (k + 1) = d.take k ++ [d[k]'hkd] by rw [List.take_add_one, List.getElem?_eq_getElem hkd]; rfl)
          rw [List.getElem?_eq_getElem hkd] at hcl
          simp only [Option.getD_some] at hcl
          generalize d[k]'hkd = x at hcl HX
          have hl8 : (d.take k).length ≤ 8 := by simp; omega
          have hlt0 : w.heap.size < wr.heap.size := blk_lt HB.out
          go_wp2_with ((with_reducible refine gate_builtin (b := .append) (xs := #[.tmp 18, .tmp 23]) rfl ?_); at_builtin; refine Kd.R_append kB (w0 := w) w.heap.size rfl (.tmp 18) (.tmp 23) 36 5 (.int .u8 0) 1 rfl Tryd.underlying36 info_u8 rfl (by decide) (by omega) _ (d.take k) x [.int .u8 x] (fun k => w.heap.size < k) (fun _ => False) rfl rfl rfl (fun _ hk => hk.elim) (fun k hk => by omega) HO.out HW.out (Nat.le_of_lt hlt0) (by omega) ?_; intro v1 w2 hown hb hg hat; have HO2 := Aside0.mk hown; have HB2 := Aside0.mk (blk_grown HB.out hg (fun e => Nat.lt_irrefl _ (HO.out.1 _ e.symm))); have HW2 := Aside0.mk hb; clear hown hb hg hat)
          refine ⟨⟨k + 1, by omega, by simp, ⟨?_⟩, HB2, HW2⟩, by simp [intOf]; omega⟩
          rw [HX.out]
          exact HO2.out
        · have ek : m = k := by omega
          subst ek
          go_wp2
          go_ret
          exact ⟨_, _, rfl, HDO.out, HO.out, HW.out⟩
    · have HDO := Aside0.mk (show DataOf ⟨i, n, d, true⟩ [] from .inr ⟨fun h => by simp at h, rfl⟩)
      go_enter Tryd.func22, Tryd.ntmps22
      go_wp2_with (go_at_call 21; refine (HR _).mono ?_; rintro e w1 ⟨(⟨rfl, _⟩ | ⟨rfl, hno⟩), hbw⟩; rotate_left; exact absurd HRT.out hno; clear HR; obtain ⟨hb0, hbw2⟩ := after_call hbw; obtain ⟨f0, f1, _, _, _, _, _, _, _, _, f10, _⟩ := fm_lit hb0; have HBW := Aside0.mk hbw2; clear hb0 hbw hbw2)
      go_ret
      exact ⟨_, [], rfl, HDO.out, Kd.R_nil _ _ _ _ _, HBW.out⟩
  · have HRT := Aside0.mk hr
    have HDO := Aside0.mk (show DataOf ⟨i, n, d, b⟩ [] from .inr ⟨fun h => hr h.1, rfl⟩)
    clear hr
    go_enter Tryd.func22, Tryd.ntmps22
    go_wp2_with (go_at_call 21; refine (HR _).mono ?_; rintro e w1 ⟨(⟨rfl, hyes⟩ | ⟨rfl, _⟩), hbw⟩; exact absurd hyes HRT.out; clear HR; have HBW := Aside0.mk (after_call hbw).2; clear hbw)
    go_ret
    exact ⟨_, [], rfl, HDO.out, Kd.R_nil _ _ _ _ _, HBW.out⟩
end Go.Proofs.YtmgabmcfgnlpfaaDoor.Frm
