/- The law's place, mapping, producer; is it the frame? slices.Clone of Maps. Producers: Set, where it is done. ProduceInhibits, plainly: what stays from moment to moment. The law's producer is set, and starts; the law's example works. Rows of moments as arguments: what they read. ProduceInhibits, walked. -/
import Derived.Test.YtokebpeplopjhaaDoorY9
import Derived.DeepKeys
import Derived.StillTailTactics
import Derived.Deep.RegionHeld3
import Derived.Deep.MidRow
import Derived.WalkLawsBesides
namespace Go.Proofs.YtokebpeplopjhaaDoor.Mp
open Go.RowKit Go.Shelf Go.Proofs.YtokebpeplopjhaaDoor.Rng Go.Proofs.YtokebpeplopjhaaDoorW.PrintWords Go.Proofs.YtokebpeplopjhaaDoorW.PrintMore Go.Proofs.YtokebpeplopjhaaDoorW.PrintLast

theorem info_place : (Tryd.prog.info? 33).map (·.size) = some 2 := by kernel_rfl
set_option maxRecDepth 100000 in
set_option maxHeartbeats 1000000 in
theorem place_any (w : World) : Calls Tryd.prog 44 #[] w fun e w' => e = .returned (pl 24576 1) ∧ Below w.heap.size w w' := by
  have hn := blk_new w (.cells #[.int .u16 24576, .int .u8 1] 33)
  have hb : Below w.heap.size w (w.alloc (.cells #[.int .u16 24576, .int .u8 1] 33)) := below_alloc (Below.refl _ _) _
  go_enter Tryd.func44, Tryd.ntmps44
  go_wp2
  refine bodyPost_ret (v := pl 24576 1) (results_single rfl (.cell w.heap.size 33 #[.int .u16 24576, .int .u8 1] (0, 0) _ rfl hn Tryd.underlying33 rfl info_place .nil)) rfl ⟨rfl, hb⟩
theorem one_row {w : World} {g : Nat} (h : w.heap[g]? = some (.cells #[.int .u16 24576, .int .u8 1, .int .i64 8] 48 (0, 0))) : MsAt w (some ⟨g, 0, none⟩) oneM := by
  intro j m hj
  match j, hj with
  | 0, hj =>
    injection hj with hj
    subst hj
    exact ⟨_, rfl, (by rw [show ∀ n, (⟨g, 0, none⟩ : Addr).add n = ⟨g, n, none⟩ from fun _ => add_plain _ _]; exact blk_cell h 0), (by rw [show ∀ n, (⟨g, 0, none⟩ : Addr).add n = ⟨g, n, none⟩ from fun _ => add_plain _ _]; exact blk_cell h 1), (by rw [show ∀ n, (⟨g, 0, none⟩ : Addr).add n = ⟨g, n, none⟩ from fun _ => add_plain _ _]; exact blk_cell h 2)⟩
set_option maxRecDepth 100000 in
set_option maxHeartbeats 1000000 in
theorem lone_any (w : World) : Calls Tryd.prog 41 #[] w fun e w' => ∃ gl, e = .returned (.slice (some ⟨gl, 0, none⟩) 1 1) ∧ w.heap.size ≤ gl ∧ MsAt w' (some ⟨gl, 0, none⟩) oneM ∧ Below w.heap.size w w' := by
  go_enter Tryd.func41, Tryd.ntmps41
  go_wp2_with (go_at_call 44; go_loud (refine (place_any _).mono ?_; rintro e w1 ⟨rfl, hb1⟩; unfold pl; have HB1 := Aside0.mk hb1; clear hb1))
  go_ret
  exact ⟨w1.heap.size, rfl, HB1.out.size, one_row (blk_new w1 _), HB1.out.trans ((below_alloc (Below.refl _ _) _).mono HB1.out.size)⟩
set_option maxRecDepth 100000 in
theorem cells_8a : Tryd.prog.cellsOf 102 = 8 := by kernel_rfl
theorem cells_1a : Tryd.prog.cellsOf 5 = 1 := by kernel_rfl
theorem lits_u8 (n : Nat) {s : Int} (h2 : (Lit.int .u8 s).wf = true) : Tryd.prog.keyLits (n + 1) 5 [.int .u8 s] = some [.int .u8 s] := by
  unfold Program.keyLits
  rw [Tryd.underlying5]
  simp [h2]
theorem eight_lits (b : Int) (hb : (Lit.int .u8 b).wf = true) : Tryd.prog.keyLits 4 102 [.int .u8 b, .int .u8 0, .int .u8 0, .int .u8 0, .int .u8 0, .int .u8 0, .int .u8 0, .int .u8 0] = some [.int .u8 b, .int .u8 0, .int .u8 0, .int .u8 0, .int .u8 0, .int .u8 0, .int .u8 0, .int .u8 0] := by
  have e1 := lits_u8 2 hb
  have e2 := lits_u8 2 (s := 0) (by decide)
  unfold Program.keyLits
  rw [Tryd.underlying102]
  simp [cells_8a, cells_1a, List.range, List.range.loop, e1, e2]
set_option maxRecDepth 100000 in
theorem eight_eq (w : World) (b : Int) (hb : (Lit.int .u8 b).wf = true) : (Op.equalIn 9999 102 (.agg #[.int .u8 b, .int .u8 0, .int .u8 0, .int .u8 0, .int .u8 0, .int .u8 0, .int .u8 0, .int .u8 0]) (.agg #[.int .u8 b, .int .u8 0, .int .u8 0, .int .u8 0, .int .u8 0, .int .u8 0, .int .u8 0, .int .u8 0])).run Tryd.prog w = .ok true w := by
  obtain ⟨r, hr, hiff⟩ := run_equalIn_deep (P := Tryd.prog) 9996 3 102 (by kernel_rfl) w 4 4 (.agg #[.int .u8 b, .int .u8 0, .int .u8 0, .int .u8 0, .int .u8 0, .int .u8 0, .int .u8 0, .int .u8 0]) (.agg #[.int .u8 b, .int .u8 0, .int .u8 0, .int .u8 0, .int .u8 0, .int .u8 0, .int .u8 0, .int .u8 0]) _ _ (by simp [Value.formed, Tryd.underlying102, cells_8a]) (by simp [Value.formed, Tryd.underlying102, cells_8a]) (eight_lits b hb) (eight_lits b hb)
  rw [hiff.2 rfl] at hr
  exact hr
set_option maxRecDepth 100000 in
set_option maxHeartbeats 1000000 in
theorem is_cells (ad : Addr) (c : Nat) (b : Int) (hb : (Lit.int .u8 b).wf = true) (w : World) (h : ∀ (j : Nat) u, [Value.int .u16 385, .int .i64 1, .int .u8 b, .int .u8 0, .int .u8 0, .int .u8 0, .int .u8 0, .int .u8 0, .int .u8 0, .int .u8 0, .bool false][j]? = some u → w.cell? (ad.add j) = some u) : Calls Tryd.prog 46 #[.slice (some ad) 1 c, .int .u16 385, .int .u8 b] w fun e w' => e = .returned (.bool true) ∧ w = w' := by
  have f : ∀ (j : Nat) u, 0 < j → [Value.int .u16 385, .int .i64 1, .int .u8 b, .int .u8 0, .int .u8 0, .int .u8 0, .int .u8 0, .int .u8 0, .int .u8 0, .int .u8 0, .bool false][j]? = some u → w.cell? ⟨ad.block, ad.off + j, none⟩ = some u := fun j u hj hu => by
    have := h j u hu
    unfold Addr.add at this
    rw [if_neg (by omega)] at this
    exact this
  have y0 := h 0 _ rfl
  rw [show ad.add 0 = ad from rfl] at y0
  have y1 := f 1 _ (by omega) rfl
  have y2 := f 2 _ (by omega) rfl
  have y3 := f 3 _ (by omega) rfl
  have y4 := f 4 _ (by omega) rfl
  have y5 := f 5 _ (by omega) rfl
  have y6 := f 6 _ (by omega) rfl
  have y7 := f 7 _ (by omega) rfl
  have y8 := f 8 _ (by omega) rfl
  have y9 := f 9 _ (by omega) rfl
  have y10 := f 10 _ (by omega) rfl
  clear h f
  have he := fun W => eight_eq W b hb
  go_enter Tryd.func46, Tryd.ntmps46
  go_wp2
  go_ret
  exact ⟨rfl, rfl⟩
theorem wf_of_u8 {b : Int} (h : 0 ≤ b ∧ b < 256) : (Lit.int .u8 b).wf = true := by
  have h1 : IntKind.u8.min = 0 := rfl
  have h2 : IntKind.u8.max = 255 := rfl
  simp [Lit.wf]
  omega
/-- One frame: it is of this identifier and this byte. -/
theorem is_one (A : Option Addr) (c : Nat) (b : Int) (hb : 0 ≤ b ∧ b < 256) (w : World) (h : FrOne w A b) : Calls Tryd.prog 46 #[.slice A 1 c, .int .u16 385, .int .u8 b] w fun e w' => e = .returned (.bool true) ∧ w = w' := by
  obtain ⟨ad, hA, hc⟩ := h.2.2 (by omega)
  subst hA
  obtain ⟨cs, hcl, ⟨rfl, -, -⟩, hcell⟩ := hc 0 _ rfl
  exact is_cells ad c b (wf_of_u8 hb) w (fun j u hu => by
    have := hcell j u hu
    rwa [Nat.zero_mul, Nat.zero_add] at this)
theorem es_one {w : World} {g : Nat} (h : w.heap[g]? = some (.cells #[.int .u16 24576, .int .u8 1, .string ⟨#[]⟩, .int .u8 5, .int .u8 7, .slice none 0 0, .slice none 0 0, .slice none 0 0, .int .u8 0, .int .u8 0] 121 (0, 0))) : EsAt w (some ⟨g, 0, none⟩) oneE := by
  intro j e hj
  match j, hj with
  | 0, hj =>
    injection hj with hj
    subst hj
    exact ⟨_, _, _, _, rfl, es_cell h 0 _ rfl (fun i hi => match i, hi with | 0, _ => rfl | 1, _ => rfl | 2, _ => rfl | 3, _ => rfl | 4, _ => rfl | 5, _ => rfl | 6, _ => rfl | 7, _ => rfl | 8, _ => rfl | 9, _ => rfl | n + 10, h => absurd h (by omega)), ArgV.nil _, ArgV.nil _, ArgV.nil _⟩
def BeganSaid (B : Nat) (w : World) (e : Ending) (w' : World) : Prop := ∃ g gd bi bs wd, e = .returned (.tuple #[.pointer (some ⟨g, 0, none⟩), .pointer (some ⟨gd, 0, none⟩)]) ∧ PrAt w' g (.pointer (some ⟨gd, 0, none⟩)) (fun _ => zOb) (fun _ => .slice none 0 0) (fun _ => .slice none 0 0) false 0 ∧ DictB B wd gd bi bs d1 ∧ Below wd.heap.size wd w' ∧ wd.heap.size ≤ g ∧ w.heap.size ≤ wd.heap.size ∧ Below w.heap.size w w'
set_option maxRecDepth 100000 in
set_option maxHeartbeats 1000000 in
theorem began_any (B : Nat) (w : World) (ht : Tbl w) (hB : B ≤ w.heap.size) : Calls Tryd.prog 39 #[] w (BeganSaid B w) := by
  have HT := Aside0.mk ht
  have hrow := blk_new w (.cells #[.int .u16 24576, .int .u8 1, .string ⟨#[]⟩, .int .u8 5, .int .u8 7, .slice none 0 0, .slice none 0 0, .slice none 0 0, .int .u8 0, .int .u8 0] 121)
  have HE := Aside0.mk (es_one hrow)
  have HB0 := Aside0.mk (show Below w.heap.size w (w.alloc (.cells #[.int .u16 24576, .int .u8 1, .string ⟨#[]⟩, .int .u8 5, .int .u8 7, .slice none 0 0, .slice none 0 0, .slice none 0 0, .int .u8 0, .int .u8 0] 121)) from below_alloc (Below.refl _ _) _)
  clear hrow ht
  go_enter Tryd.func39, Tryd.ntmps39
  go_wp2_with (first
    | (go_at_call 19; go_loud (refine (new_any B oneE _ _ _ HE.out (fun e he => (oneE_ok e he).1) (HT.out.below HB0.out) (Nat.le_trans hB HB0.out.size) (by decide) _ new1).mono ?_; rintro e w2 ⟨hb2, gd, bi, bs, rfl, hg, hbi, hbs, hD⟩; have HB2 := Aside0.mk (HB0.out.trans (hb2.mono HB0.out.size)); have HD := Aside0.mk hD; clear hb2 hg hbi hbs hD))
    | (go_at_call 63; go_loud (refine (pnew_any gd w2).mono ?_; rintro e w3 ⟨g, rfl, hg, hP, hb3⟩; have HB3 := Aside0.mk hb3; have HP := Aside0.mk hP; have HG3 := Aside0.mk hg; clear hP hb3 hg)))
  go_ret2
  exact ⟨g, gd, bi, bs, w2, rfl, HP.out, HD.out, HB3.out, HG3.out, HB2.out.size, HB2.out.trans (HB3.out.mono HB2.out.size)⟩
end Go.Proofs.YtokebpeplopjhaaDoor.Mp
namespace Go.Proofs.YtokebpeplopjhaaDoor.Mp
open Go.RowKit Go.Shelf Go.Proofs.YtokebpeplopjhaaDoor.Rng Go.Proofs.YtokebpeplopjhaaDoorW.PrintWords Go.Proofs.YtokebpeplopjhaaDoorW.PrintMore Go.Proofs.YtokebpeplopjhaaDoorW.PrintLast

/-- Maps as a kind of elements. -/
abbrev kP : Kd ((Int × Int) × Int) := Kd.pair (Kd.pair (Kd.int .u16) (Kd.int .u8)) (Kd.int .i64)
def mpP (m : Mp) : (Int × Int) × Int := ((m.ix, m.sub), m.bits)
theorem info_mpP : (Tryd.prog.info? 48).map (fun i => (i.zero, i.size, i.bytes)) = some (some (.agg #[.int .u16 0, .int .u8 0, .int .i64 0]), 3, 16) := by kernel_rfl
theorem msP_rows {w w0 : World} {A : Option Addr} {l : List Mp} (h : MsAt w A l) (hl : l.length ≤ 9223372036854775807) : ReadsRow (fun x cs => kP.K w0 x cs) 3 w A l.length (l.map mpP) := by
  refine ⟨by simp, hl, fun h0 => ?_⟩
  obtain ⟨ad, rfl, -⟩ := h 0 _ (List.getElem?_eq_getElem h0)
  refine ⟨ad, rfl, fun j p hj => ?_⟩
  obtain ⟨m, hm, rfl⟩ := List.getElem?_map (f := mpP) ▸ hj |> Option.map_eq_some_iff.1
  obtain ⟨ad2, e, y0, y1, y2⟩ := h j m hm
  injection e with e
  subst e
  refine ⟨[.int .u16 m.ix, .int .u8 m.sub, .int .i64 m.bits], rfl, ⟨[.int .u16 m.ix, .int .u8 m.sub], [.int .i64 m.bits], rfl, ⟨[.int .u16 m.ix], [.int .u8 m.sub], rfl, rfl, rfl⟩, rfl⟩, fun i u hu => ?_⟩
  match i, hu with
  | 0, hu => injection hu with hu; subst hu; exact y0
  | 1, hu => injection hu with hu; subst hu; rw [add_field _ _ 1 (by omega)]; exact y1
  | 2, hu => injection hu with hu; subst hu; rw [add_field _ _ 2 (by omega)]; exact y2
theorem msP_of_C {w : World} {A : Option Addr} {l : List Mp} (h : kP.C w A l.length (l.map mpP)) : MsAt w A l := by
  intro j m hj
  have hjl : j < l.length := (List.getElem?_eq_some_iff.1 hj).1
  obtain ⟨ad, hA, hc⟩ := h.2.2 (by omega)
  obtain ⟨c, hcl, hK, hcell⟩ := hc j (mpP m) (by simp [hj])
  obtain ⟨_, _, rfl, ⟨_, _, rfl, rfl, rfl⟩, rfl⟩ := hK
  refine ⟨ad, hA, hcell 0 _ rfl, ?_, ?_⟩
  · rw [← add_field _ _ 1 (by omega)]
    exact hcell 1 _ rfl
  · rw [← add_field _ _ 2 (by omega)]
    exact hcell 2 _ rfl
theorem R_zeroP (W : World) (base : Nat) (hb : base ≤ W.heap.size) : Kd.R kP 48 (W.alloc (.cells #[] 48)) base (fun k => base ≤ k) (.slice (some ⟨W.heap.size, 0, none⟩) 0 0) [] := by
  refine ⟨fun k hk => ?_, [], ?_, ⟨rfl, fun j p hj => by simp at hj⟩⟩
  · simp [Value.ownBlock] at hk
    omega
  · have h2 := World.ownsRow_lit (base := base) (e := 48) (size := 3) W #[] 0 hb (by simp [maxLen]) (by simp)
    exact h2
/-- A row of Maps in blocks from a number on. -/
def MsF (B : Nat) (w : World) (v : Value) (l : List Mp) : Prop := ∃ A c, v = .slice A l.length c ∧ MsAt w A l ∧ ∀ ad, A = some ad → B ≤ ad.block
theorem MsF.msN {B g : Nat} {w : World} {v : Value} {l : List Mp} (h : MsF B w v l) (hg : g < B) : MsN g w v l := by
  obtain ⟨A, c, e, h1, h2⟩ := h
  exact ⟨A, c, e, h1, fun ad hA _ he => by have := h2 ad hA; omega⟩
set_option maxRecDepth 100000 in
set_option maxHeartbeats 1000000 in
theorem mclone_any (A : Option Addr) (c : Nat) (l : List Mp) (w : World) (hm : MsAt w A l) (hl : l.length ≤ 1000000) :
    Calls Tryd.prog 90 #[.slice A l.length c] w fun e w' => ∃ v, e = .returned v ∧ MsF w.heap.size w' v l ∧ Below w.heap.size w w' := by
  have hn := Lib.run_eql_slice_nil (P := Tryd.prog)
  cases A with
  | none =>
    obtain rfl : l = [] := by
      cases l with
      | nil => rfl
      | cons m r => obtain ⟨ad, e, -⟩ := hm 0 m rfl; cases e
    go_enter Tryd.func90, Tryd.ntmps90
    go_wp2
    go_ret
    exact ⟨_, rfl, ⟨none, 0, rfl, (fun j m h => by simp at h), (fun ad e => by cases e)⟩, Below.refl _ _⟩
  | some ad =>
    have HM := Aside0.mk hm
    obtain ⟨n, hnl⟩ : ∃ n, l.length = n := ⟨_, rfl⟩
    have HN := Aside0.mk hnl
    rw [hnl] at hl ⊢
    clear hm hnl
    go_enter Tryd.func90, Tryd.ntmps90
    go_wp2_with ((with_reducible refine gate_dst (N := 7) rfl ?_); go_loud (refine Kd.R_append_rows kP (Rr := fun x cs => kP.K w x cs) (w0 := w) w.heap.size rfl _ _ 23 48 (.agg #[.int .u16 0, .int .u8 0, .int .i64 0]) 16 rfl Tryd.underlying23 info_mpP rfl (by decide) (by decide) _ [] (l.map mpP) (some ad) n c (fun k => w.heap.size ≤ k) (fun _ => False) rfl rfl (R_zeroP w _ (Nat.le_refl _)) (HN.out ▸ msP_rows (HM.out.below (below_alloc (Below.refl _ _) _)) (by have := HN.out; omega)) (fun x cs hx => by obtain ⟨_, _, rfl, ⟨_, _, rfl, rfl, rfl⟩, rfl⟩ := hx; exact ⟨_, _, rfl, ⟨_, _, rfl, rfl, rfl⟩, rfl⟩) (fun k hk => hk.elim) (fun k hk => by simp at hk; omega) (below_alloc (Below.refl _ _) _) (by simp) (by simp; omega) ?_; intro v1 w1 hown hb hg hat; have HO := Aside0.mk hown; have HB := Aside0.mk hb; clear hown hb hg hat))
    go_ret
    have hown := HO.out
    obtain ⟨A1, c1, rfl, -, hC⟩ := Kd.R_reads hown
    rw [List.nil_append, List.length_map] at hC ⊢
    refine ⟨_, rfl, ⟨A1, c1, rfl, msP_of_C hC, fun ad1 e => ?_⟩, HB.out⟩
    subst e
    exact hown.1 ad1.block rfl
end Go.Proofs.YtokebpeplopjhaaDoor.Mp
set_option linter.unusedSimpArgs false
set_option linter.unusedVariables false
namespace Go.Proofs.YtokebpeplopjhaaDoor.Mp
open Go.RowKit Go.Shelf Go.Proofs.YtokebpeplopjhaaDoor.Rng Go.Proofs.YtokebpeplopjhaaDoorW.PrintWords Go.Proofs.YtokebpeplopjhaaDoorW.PrintMore Go.Proofs.YtokebpeplopjhaaDoorW.PrintLast

theorem size_ob : (Tryd.prog.info? 155).map (·.size) = some 13 := by kernel_rfl
theorem PrAt.there {w : World} {g : Nat} {vd : Value} {os : Nat → Ob} {vm vb : Nat → Value} {goes : Bool} {now : Int} (h : PrAt w g vd os vm vb goes now) {i : Nat} (hi : i < 8) : w.there g (1 + i * 13) 13 := fun j hj => by
  have hl : ((os i).cells (vm i) (vb i)).length = 13 := rfl
  rw [h.ob i hi j _ (List.getElem?_eq_getElem (by rw [hl]; omega))]
  exact ⟨rfl, h.fz _⟩
theorem there_below {w w' : World} {g o n : Nat} (h : w.there g o n) (hb : Below w.heap.size w w') : w'.there g o n := fun j hj => by
  obtain ⟨h1, h2⟩ := h j hj
  obtain ⟨v, hv⟩ := Option.isSome_iff_exists.1 h1
  have hlt : g < w.heap.size := World.block_lt_of_cell? w _ hv
  exact ⟨by rw [pw_cell_below hb hv]; rfl, by rw [World.frozen?_of_block (a := ⟨g, o + j, none⟩) (hb.block g hlt)]; exact h2⟩
theorem upd_upd {α : Type} (f : Nat → α) (i : Nat) (x y : α) : upd (upd f i x) i y = upd f i y := by
  funext k
  unfold upd
  split <;> rfl
/-- An object that is set. -/
def setOb (c : Cm) (l : List Mp) : Ob := ⟨c, l, false, [], 0, false, 0, false⟩
theorem PrAt.setOb {w : World} {g : Nat} {vd : Value} {os : Nat → Ob} {vm vb : Nat → Value} {goes : Bool} {n0 : Int} (h : PrAt w g vd os vm vb goes n0) {i : Nat} (hi : i < 8) (c : Cm) (l : List Mp) (v : Value) (hv : MsN g w v l) :
    PrAt (w.setCells g (1 + i * 13) ((setOb c l).cells v (.slice none 0 0))) g vd (upd os i (setOb c l)) (upd vm i v) (upd vb i (.slice none 0 0)) goes n0 :=
  h.store hi (t := 0) ((Mp.setOb c l).cells v (.slice none 0 0)) (Nat.le_refl _) (Mp.setOb c l) v (.slice none 0 0) (fun j u hu => .inl ⟨by omega, by have hj : j < 13 := (List.getElem?_eq_some_iff.1 hu).1; show j < 0 + 13; omega, hu⟩) hv (ArgN.nil g w)
theorem there13 {w : World} {g o : Nat} (h : w.there g o 13) : ∃ z0 z1 z2 z3 z4 z5 z6 z7 z8 z9 z10 z11 z12, w.cell? ⟨g, o, none⟩ = some z0 ∧ w.cell? ⟨g, o + 1, none⟩ = some z1 ∧ w.cell? ⟨g, o + 2, none⟩ = some z2 ∧ w.cell? ⟨g, o + 3, none⟩ = some z3 ∧ w.cell? ⟨g, o + 4, none⟩ = some z4 ∧ w.cell? ⟨g, o + 5, none⟩ = some z5 ∧ w.cell? ⟨g, o + 6, none⟩ = some z6 ∧ w.cell? ⟨g, o + 7, none⟩ = some z7 ∧ w.cell? ⟨g, o + 8, none⟩ = some z8 ∧ w.cell? ⟨g, o + 9, none⟩ = some z9 ∧ w.cell? ⟨g, o + 10, none⟩ = some z10 ∧ w.cell? ⟨g, o + 11, none⟩ = some z11 ∧ w.cell? ⟨g, o + 12, none⟩ = some z12 ∧ w.frozen? ⟨g, o, none⟩ = false ∧ w.frozen? ⟨g, o + 1, none⟩ = false ∧ w.frozen? ⟨g, o + 2, none⟩ = false ∧ w.frozen? ⟨g, o + 3, none⟩ = false ∧ w.frozen? ⟨g, o + 4, none⟩ = false ∧ w.frozen? ⟨g, o + 5, none⟩ = false ∧ w.frozen? ⟨g, o + 6, none⟩ = false ∧ w.frozen? ⟨g, o + 7, none⟩ = false ∧ w.frozen? ⟨g, o + 8, none⟩ = false ∧ w.frozen? ⟨g, o + 9, none⟩ = false ∧ w.frozen? ⟨g, o + 10, none⟩ = false ∧ w.frozen? ⟨g, o + 11, none⟩ = false ∧ w.frozen? ⟨g, o + 12, none⟩ = false := by
  obtain ⟨q0, f0⟩ := h 0 (by omega)
  obtain ⟨z0, y0⟩ := Option.isSome_iff_exists.1 q0
  obtain ⟨q1, f1⟩ := h 1 (by omega)
  obtain ⟨z1, y1⟩ := Option.isSome_iff_exists.1 q1
  obtain ⟨q2, f2⟩ := h 2 (by omega)
  obtain ⟨z2, y2⟩ := Option.isSome_iff_exists.1 q2
  obtain ⟨q3, f3⟩ := h 3 (by omega)
  obtain ⟨z3, y3⟩ := Option.isSome_iff_exists.1 q3
  obtain ⟨q4, f4⟩ := h 4 (by omega)
  obtain ⟨z4, y4⟩ := Option.isSome_iff_exists.1 q4
  obtain ⟨q5, f5⟩ := h 5 (by omega)
  obtain ⟨z5, y5⟩ := Option.isSome_iff_exists.1 q5
  obtain ⟨q6, f6⟩ := h 6 (by omega)
  obtain ⟨z6, y6⟩ := Option.isSome_iff_exists.1 q6
  obtain ⟨q7, f7⟩ := h 7 (by omega)
  obtain ⟨z7, y7⟩ := Option.isSome_iff_exists.1 q7
  obtain ⟨q8, f8⟩ := h 8 (by omega)
  obtain ⟨z8, y8⟩ := Option.isSome_iff_exists.1 q8
  obtain ⟨q9, f9⟩ := h 9 (by omega)
  obtain ⟨z9, y9⟩ := Option.isSome_iff_exists.1 q9
  obtain ⟨q10, f10⟩ := h 10 (by omega)
  obtain ⟨z10, y10⟩ := Option.isSome_iff_exists.1 q10
  obtain ⟨q11, f11⟩ := h 11 (by omega)
  obtain ⟨z11, y11⟩ := Option.isSome_iff_exists.1 q11
  obtain ⟨q12, f12⟩ := h 12 (by omega)
  obtain ⟨z12, y12⟩ := Option.isSome_iff_exists.1 q12
  exact ⟨z0, z1, z2, z3, z4, z5, z6, z7, z8, z9, z10, z11, z12, y0, y1, y2, y3, y4, y5, y6, y7, y8, y9, y10, y11, y12, f0, f1, f2, f3, f4, f5, f6, f7, f8, f9, f10, f11, f12⟩
theorem S_step {g o n : Nat} {w2 X w3 : World} (h : Fr (fun k => k = g) w2 X ∧ X.there g o n) (hb : Below X.heap.size X w3) : Fr (fun k => k = g) w2 w3 ∧ w3.there g o n := ⟨h.1.trans (Fr.of_below hb), there_below h.2 hb⟩
theorem S_store {g o n o' : Nat} {w2 X : World} {vs : List Value} (h : Fr (fun k => k = g) w2 X ∧ X.there g o n) : Fr (fun k => k = g) w2 (X.setCells g o' vs) ∧ (X.setCells g o' vs).there g o n := ⟨h.1.trans (fr_cells _ _ _), World.there_setCells h.2 _ _ _⟩
theorem one13 (id kind inh ev st : Int) (A : Option Addr) (n c : Nat) : ∀ v ∈ ([.bool true, .int .u16 id, .int .u8 kind, .int .i64 inh, .int .i64 ev, .int .u8 st, .slice A n c, .bool false, .slice none 0 0, .int .i64 0, .bool false, .int .i64 0, .bool false] : List Value), v.oneCell' = true := by
  intro v hv
  simp only [List.mem_cons, List.not_mem_nil, or_false] at hv
  rcases hv with rfl | rfl | rfl | rfl | rfl | rfl | rfl | rfl | rfl | rfl | rfl | rfl | rfl <;> rfl
set_option maxRecDepth 100000 in
set_option maxHeartbeats 4000000 in
theorem pset_yes (B g gd bi bs : Nat) (d : DD) (os : Nat → Ob) (vm vb : Nat → Value) (goes : Bool) (n0 : Int) (i : Nat) (hi : i < 8) (c : Cm) (l : List Mp) (A : Option Addr) (cc : Nat) (w : World) (h : PrAt w g (.pointer (some ⟨gd, 0, none⟩)) os vm vb goes n0) (hD : DictB B w gd bi bs d) (hG : Good d) (ht : Tbl w) (hm : MsAt w A l) (hmn : ∀ ad, A = some ad → 0 < l.length → ad.block ≠ g) (hl : l.length ≤ 64) (hmw : ∀ m ∈ l, m.Wf) (hc : cmOk c) (hon : c.on = true) (hck : checkC (some d) l true = 0) :
    Calls Tryd.prog 40 #[.pointer (some ⟨g, 0, none⟩), .int .i64 i, c.v, .slice A l.length cc] w fun e w' => e = .returned (.int .u32 0) ∧ (∃ vm' vb', PrAt w' g (.pointer (some ⟨gd, 0, none⟩)) (upd os i ((setOb c l).begin_ n0)) vm' vb' goes n0) ∧ Fr (fun k => k = g) w w' := by
  have hgl := h.lt
  have HP := Aside0.mk h
  have HD := Aside0.mk hD
  have HT := Aside0.mk ht
  have HG := Aside0.mk hG
  have HM := Aside0.mk hm
  have HMN := Aside0.mk hmn
  have HMW := Aside0.mk hmw
  have HCK := Aside0.mk hck
  have hmay := fun X => pmay_any c X
  rw [decide_eq_true hc] at hmay
  have HMY := Aside0.mk hmay
  have hi0 : (0 : Int) ≤ (i : Int) := by omega
  have hi8 : (i : Int) < 8 := by omega
  have hn8 : ¬ (8 : Int) ≤ (i : Int) := by omega
  obtain ⟨n, hn⟩ : ∃ n, l.length = n := ⟨_, rfl⟩
  have HN := Aside0.mk hn
  have hnl : ¬ (64 : Int) < (n : Int) := by omega
  rw [hn] at hl ⊢
  obtain ⟨on, id, kind, inh, ev, st⟩ := c
  simp only at hon
  subst hon
  have hbx : ∀ o, Below w.heap.size w (w.alloc o) := fun o => below_alloc (Below.refl _ _) _
  have hbox := blk_new w (.cells #[.bool true, .int .u16 id, .int .u8 kind, .int .i64 inh, .int .i64 ev, .int .u8 st] 82)
  have HBOX := Aside0.mk hbox
  have HB0 := Aside0.mk (hbx (.cells #[.bool true, .int .u16 id, .int .u8 kind, .int .i64 inh, .int .i64 ev, .int .u8 st] 82))
  clear h hD ht hG hm hmn hmw hck hmay hc hn hbox hbx
  go_enter Tryd.func40, Tryd.ntmps40
  go_wp2_with (first
    | (go_at_call 89; refine (HMY.out _).mono ?_; rintro e w1 ⟨rfl, hb1⟩; have HB1 := Aside0.mk (HB0.out.trans (hb1.mono HB0.out.size)); have hb0 := Go.Proofs.YtokebpeplopjhaaDoorW.PrintWords.blk_cell (blk_below HBOX.out hb1) 0; have d0 := pw_cell_below HB1.out HP.out.d0; have HX1 := Aside0.mk (blk_below HBOX.out hb1); clear hb1)
    | (go_at_call 21; rw [← HN.out]; refine (mcheck_any B (.pointer (some ⟨gd, 0, none⟩)) (some d) l A cc true w1 ⟨gd, rfl, (HD.out.below HB1.out).dict⟩ (HT.out.below HB1.out) (HM.out.below HB1.out) (by have := HN.out; omega) HMW.out HG.out.find).mono ?_; rw [HCK.out]; rintro e w2 ⟨rfl, hb2⟩; rw [HN.out]; have HB2 := Aside0.mk (HB1.out.trans (hb2.mono HB1.out.size)); have HX2 := Aside0.mk (blk_below HX1.out hb2); clear hb2 hb0 d0))
  have hP2 := HP.out.below HB2.out
  have hx2 := HX2.out
  have hneb : w.heap.size ≠ g := by omega
  have hS0 : Fr (fun k => k = g) w2 w2.drew ∧ w2.drew.there g (1 + i * 13) 13 := ⟨Fr.of_below (below_drew (Below.refl _ _)), there_below (hP2.there hi) (below_drew (Below.refl _ _))⟩
  have u0 : ∀ X, (Fr (fun k => k = g) w2 X ∧ X.there g (1 + i * 13) 13) → X.cell? ⟨w.heap.size, 0, none⟩ = some (.bool true) := fun X hX => hX.1.cell (Go.Proofs.YtokebpeplopjhaaDoorW.PrintWords.blk_cell hx2 0) hneb
  have u1 : ∀ X, (Fr (fun k => k = g) w2 X ∧ X.there g (1 + i * 13) 13) → X.cell? ⟨w.heap.size, 1, none⟩ = some (.int .u16 id) := fun X hX => hX.1.cell (Go.Proofs.YtokebpeplopjhaaDoorW.PrintWords.blk_cell hx2 1) hneb
  have u2 : ∀ X, (Fr (fun k => k = g) w2 X ∧ X.there g (1 + i * 13) 13) → X.cell? ⟨w.heap.size, 1 + 1, none⟩ = some (.int .u8 kind) := fun X hX => hX.1.cell (Go.Proofs.YtokebpeplopjhaaDoorW.PrintWords.blk_cell hx2 2) hneb
  have u3 : ∀ X, (Fr (fun k => k = g) w2 X ∧ X.there g (1 + i * 13) 13) → X.cell? ⟨w.heap.size, 1 + 1 + 1, none⟩ = some (.int .i64 inh) := fun X hX => hX.1.cell (Go.Proofs.YtokebpeplopjhaaDoorW.PrintWords.blk_cell hx2 3) hneb
  have u4 : ∀ X, (Fr (fun k => k = g) w2 X ∧ X.there g (1 + i * 13) 13) → X.cell? ⟨w.heap.size, 1 + 1 + 1 + 1, none⟩ = some (.int .i64 ev) := fun X hX => hX.1.cell (Go.Proofs.YtokebpeplopjhaaDoorW.PrintWords.blk_cell hx2 4) hneb
  have u5 : ∀ X, (Fr (fun k => k = g) w2 X ∧ X.there g (1 + i * 13) 13) → X.cell? ⟨w.heap.size, 1 + 1 + 1 + 1 + 1, none⟩ = some (.int .u8 st) := fun X hX => hX.1.cell (Go.Proofs.YtokebpeplopjhaaDoorW.PrintWords.blk_cell hx2 5) hneb
  have HP2 := Aside0.mk hP2
  have HM2 := Aside0.mk (show MsN g w2 (.slice A l.length cc) l from ⟨A, cc, rfl, HM.out.below HB2.out, HMN.out⟩)
  have HCL := Aside0.mk fun (X : World) (hX : Fr (fun k => k = g) w2 X) => mclone_any A cc l X (by obtain ⟨A', c', e, q, -⟩ := HM2.out.set hX; injection e with e1 e2 e3; subst e1; exact q) (by have := HN.out; omega)
  rw [HN.out] at HCL
  clear hP2 hx2
  refine wp_region_held_drew (S := (fun X => Fr (fun k => k = g) w2 X ∧ X.there g (1 + i * 13) 13)) (by kernel_rfl) hS0 (fun hHeld => ?_)
  refine wpAnyH_take (i := 0) (oi := _) (v := ?_) rfl (by kernel_rfl) (by kernel_rfl) (by kernel_rfl) (fun _ _ _ h => h) (Or.inl ⟨rfl, ?_⟩) hHeld ?_
  rotate_left
  · intro w hSw
    try dsimp only at hSw
    go_simp
    try exact rfl
  try simp only [Act.put, List.setIfInBounds_toArray, List.set_cons_zero, List.set_cons_succ]
  refine wpAnyH_take (i := 1) (oi := _) (v := ?_) rfl (by kernel_rfl) (by kernel_rfl) (by kernel_rfl) (fun _ _ _ h => h) (Or.inl ⟨rfl, ?_⟩) hHeld ?_
  rotate_left
  · intro w hSw
    try dsimp only at hSw
    go_simp
    try exact rfl
  try simp only [Act.put, List.setIfInBounds_toArray, List.set_cons_zero, List.set_cons_succ]
  refine wpAnyH_take (i := 2) (oi := _) (v := ?_) rfl (by kernel_rfl) (by kernel_rfl) (by kernel_rfl) (fun _ _ _ h => h) (Or.inl ⟨rfl, ?_⟩) hHeld ?_
  rotate_left
  · intro w hSw
    try dsimp only at hSw
    go_simp
    try exact rfl
  try simp only [Act.put, List.setIfInBounds_toArray, List.set_cons_zero, List.set_cons_succ]
  refine wpAnyH_take (i := 3) (oi := _) (v := ?_) rfl (by kernel_rfl) (by kernel_rfl) (by kernel_rfl) (fun _ _ _ h => h) (Or.inl ⟨rfl, ?_⟩) hHeld ?_
  rotate_left
  · intro w hSw
    try dsimp only at hSw
    go_simp
    try exact rfl
  try simp only [Act.put, List.setIfInBounds_toArray, List.set_cons_zero, List.set_cons_succ]
  refine wpAnyH_take (i := 6) (oi := _) (v := ?_) rfl (by kernel_rfl) (by kernel_rfl) (by kernel_rfl) (fun _ _ _ h => h) (Or.inl ⟨rfl, ?_⟩) hHeld ?_
  rotate_left
  · intro w hSw
    try dsimp only at hSw
    go_simp
    try exact rfl
  try simp only [Act.put, List.setIfInBounds_toArray, List.set_cons_zero, List.set_cons_succ]
  refine wpAnyH_take (i := 7) (oi := _) (v := ?_) rfl (by kernel_rfl) (by kernel_rfl) (by kernel_rfl) (fun _ _ _ h => h) (Or.inl ⟨rfl, ?_⟩) hHeld ?_
  rotate_left
  · intro w hSw
    try dsimp only at hSw
    go_simp
    try exact rfl
  try simp only [Act.put, List.setIfInBounds_toArray, List.set_cons_zero, List.set_cons_succ]
  refine wpAnyH_ready (rs := [4]) (by kernel_rfl) (by simp) ?_
  refine AllReadyH.cons (o := _) rfl (fun K hK => ?_) AllReadyH.nil
  go_simp
  with_reducible refine (HCL.out _ (And.left hHeld)).mono ?_
  rintro e w3 ⟨v3, rfl, hm3, hb3⟩
  obtain ⟨A3, c3, hv3, hms3, hge3⟩ := hm3
  rw [HN.out] at hv3
  subst hv3
  have hS3 := S_step hHeld hb3
  have HS3 := Aside0.mk hS3
  have HM3 := Aside0.mk (And.intro hms3 hge3)
  have HB3 := Aside0.mk hb3
  clear hms3 hge3 hb3
  refine hK.out _ _ hS3 (fun hHeld2 => ?_)
  clear hK K
  try simp only [Act.put, List.setIfInBounds_toArray, List.set_cons_zero, List.set_cons_succ]
  refine wpAnyH_take (i := 5) (oi := { dst := some 45, op := Op.build 155 #[(0, Operand.tmp 42), (1, Operand.tmp 44)], type := 155, pos := _, after := _, guard := none }) (v := ?_) rfl (by kernel_rfl) (by kernel_rfl) (by kernel_rfl) (fun _ _ _ h => h) (Or.inl ⟨rfl, ?_⟩) hHeld2 ?_
  rotate_left
  · intro w hSw
    try dsimp only at hSw
    go_simp
    try exact rfl
  try simp only [Act.put, List.setIfInBounds_toArray, List.set_cons_zero, List.set_cons_succ]
  refine wpAnyH_take (i := 8) (oi := { dst := some 48, op := Op.indexAddr 156 (Operand.tmp 47) (Operand.tmp 41), type := 0, pos := _, after := _, guard := none }) (v := ?_) rfl (by kernel_rfl) (by kernel_rfl) (by kernel_rfl) (fun _ _ _ h => h) (Or.inl ⟨rfl, ?_⟩) hHeld2 ?_
  rotate_left
  · intro w hSw
    try dsimp only at hSw
    go_simp
    try exact rfl
  try simp only [Act.put, List.setIfInBounds_toArray, List.set_cons_zero, List.set_cons_succ]
  refine wpAnyH_ready (rs := [9]) (by kernel_rfl) (by simp) ?_
  refine AllReadyH.cons (o := { dst := none, op := Op.store 155 (Operand.tmp 48) (Operand.tmp 45), type := 0, pos := _, after := _, guard := none }) rfl (fun K hK => ?_) AllReadyH.nil
  rw [if_pos (by rfl)]
  refine wp_store_mid _ _ _ rfl _ _ (List.toArray _) rfl rfl ?_ ?_ (all_oneCell_toArray (one13 id kind inh ev st A3 n c3)) ?_
  · exact hS3.2
  · exact size_ob
  simp only [Act.put, List.setIfInBounds_toArray, List.set_cons_zero, List.set_cons_succ, List.toList_toArray]
  refine hK.out _ _ (S_store hHeld2) (fun hHeld3 => ?_)
  clear hK K
  try simp only [Act.put, List.setIfInBounds_toArray, List.set_cons_zero, List.set_cons_succ]
  refine wpAnyH_done (by kernel_rfl) ?_ _
  have HS4 := Aside0.mk hHeld3
  have HP3 := Aside0.mk (HP2.out.below (below_step (below_drew (Below.refl _ _)) HB3.out))
  have hms3 : MsN g w3 (.slice A3 n c3) l := ⟨A3, c3, by rw [HN.out], HM3.out.1, fun ad e _ he => by have h1 := HM3.out.2 ad e; have h2 := HP2.out.lt; simp at h1; omega⟩
  have HP4 := Aside0.mk (HP3.out.setOb hi ⟨true, id, kind, inh, ev, st⟩ l (.slice A3 n c3) hms3)
  clear hHeld hHeld2 hHeld3 hS3 u0 u1 u2 u3 u4 u5 hms3 hS0
  rw [show (setOb ⟨true, id, kind, inh, ev, st⟩ l).cells (.slice A3 n c3) (.slice none 0 0) = [.bool true, .int .u16 id, .int .u8 kind, .int .i64 inh, .int .i64 ev, .int .u8 st, .slice A3 n c3, .bool false, .slice none 0 0, .int .i64 0, .bool false, .int .i64 0, .bool false] from rfl] at HP4
  generalize w3.setCells g (1 + i * 13) [.bool true, .int .u16 id, .int .u8 kind, .int .i64 inh, .int .i64 ev, .int .u8 st, .slice A3 n c3, .bool false, .slice none 0 0, .int .i64 0, .bool false, .int .i64 0, .bool false] = w4 at HS4 HP4 ⊢
  have hnw : ∀ X, Below w4.heap.size w4 X → X.cell? ⟨g, 106, none⟩ = some (.int .i64 n0) := fun X hX => pw_cell_below hX HP4.out.nw
  have hnw2 := hnw _ (below_drew (Below.refl _ _))
  go_wp2
  go_still_tail 9, (by kernel_rfl)
  change wpList _ _ _ _ _ w4.drew
  have HBG := Aside0.mk (pbegin_any (setOb ⟨true, id, kind, inh, ev, st⟩ l) (.slice A3 n c3) (.slice none 0 0) g (1 + i * 13) n0 w4.drew (fun j u hu => pw_cell_below (below_drew (Below.refl _ _)) (HP4.out.ob i hi j u (by rw [upd_same, upd_same, upd_same]; exact hu))) (fun k => (World.frozen?_of_block rfl).trans (HP4.out.fz k)))
  clear hnw
  go_wp2_with (go_at_call 91; go_loud (refine HBG.out.mono ?_; rintro e w5 ⟨rfl, hw5⟩; have HW5 := Aside0.mk hw5; clear hw5))
  go_ret
  have hP5 := (HP4.out.below (below_drew (Below.refl _ _))).begin_ hi n0
  rw [upd_same, upd_upd] at hP5
  refine ⟨rfl, ⟨_, _, by rw [HW5.out]; exact hP5⟩, ?_⟩
  rw [HW5.out]
  exact (Fr.of_below HB2.out).trans (HS4.out.1.trans ((Fr.of_below (below_drew (Below.refl _ _))).trans (fr_cells _ _ _)))
end Go.Proofs.YtokebpeplopjhaaDoor.Mp
namespace Go.Proofs.YtokebpeplopjhaaDoor.Mp
open Go.RowKit Go.Proofs.YtokebpeplopjhaaDoor.Num

def cI (kind inh ev : Int) : Cm := ⟨true, 385, kind, inh, ev, 0⟩
/-- What stays: nothing was sent, or the last frame was. -/
structure Inv (now last told : Int) (s : Bool) (bts : List Int) (a : Int) : Prop where
  now0 : 0 ≤ now
  st : (s = false ∧ now = 0 ∧ last = -1 ∧ bts = [] ∧ a = 0) ∨ (s = true ∧ last = a ∧ bts = [told] ∧ 0 ≤ a ∧ a < now)
theorem Inv.bnd {now last told : Int} {s : Bool} {bts : List Int} {a : Int} (h : Inv now last told s bts a) : 0 ≤ a ∧ a ≤ now ∧ -1 ≤ last ∧ last ≤ now ∧ last ≤ a := by
  have h0 := h.now0
  rcases h.st with ⟨_, h2, h3, _, h5⟩ | ⟨_, h2, _, h4, h5⟩ <;> omega
theorem inv_yes {kind inh ev now last told v : Int} {s : Bool} {bts : List Int} {a : Int} (h : Inv now last told s bts a) (hs : sndC (cI kind inh ev) s bts a v now = true) :
    (last < 0 ∨ inh ≤ now - last) ∧ Inv (now + 1) now v true [v] now := by
  have h0 := h.now0
  refine ⟨?_, by omega, .inr ⟨rfl, rfl, rfl, h0, by omega⟩⟩
  rcases h.st with ⟨_, h2, h3, _, h5⟩ | ⟨h1, h2, _, h4, h5⟩
  · exact .inl (by omega)
  · right
    unfold sndC at hs
    split at hs
    · cases hs
    · rename_i hc
      have : ¬ (now - a < inh) := fun hh => hc (.inr ⟨h1, hh⟩)
      omega
theorem inv_no {kind inh ev now last told v : Int} {s : Bool} {bts : List Int} {a : Int} (h : Inv now last told s bts a) (hs : sndC (cI kind inh ev) s bts a v now = false) :
    0 ≤ last ∧ last < now ∧ (told = v ∨ now - last < inh) ∧ (ev ≤ 0 ∨ now - last < inh ∨ now - last < ev) ∧ Inv (now + 1) last told s bts a := by
  have h0 := h.now0
  unfold sndC at hs
  rcases h.st with ⟨h1, h2, h3, h4, h5⟩ | ⟨h1, h2, h3, h4, h5⟩
  · exfalso
    subst h1
    rw [if_neg (by rintro (hh | ⟨hh, _⟩); omega; cases hh)] at hs
    simp at hs
  · refine ⟨by omega, by omega, ?_, ?_, by omega, .inr ⟨h1, h2, h3, h4, by omega⟩⟩
    · split at hs
      · rename_i hc
        rcases hc with hc | ⟨_, hc⟩
        · omega
        · right
          have : now - a < inh := hc
          omega
      · left
        rw [h1, h3] at hs
        simp at hs
        exact hs.1.symm
    · split at hs
      · rename_i hc
        rcases hc with hc | ⟨_, hc⟩
        · omega
        · right; left
          have : now - a < inh := hc
          omega
      · rw [h1, h3] at hs
        simp at hs
        have h6 : 0 < ev → now - a < ev := fun hh => by
          have := hs.2 hh
          exact this
        omega
end Go.Proofs.YtokebpeplopjhaaDoor.Mp
namespace Go.Proofs.YtokebpeplopjhaaDoor.Mp
open Go.RowKit Go.Shelf Go.Proofs.YtokebpeplopjhaaDoor.Rng Go.Proofs.YtokebpeplopjhaaDoorW.PrintWords Go.Proofs.YtokebpeplopjhaaDoorW.PrintMore Go.Proofs.YtokebpeplopjhaaDoorW.PrintLast

/-- What the producer is before it starts. -/
def SetOne (wd w : World) (g gd : Nat) (c : Cm) (e : Ending) (w' : World) : Prop := e = .returned (.int .u32 0) ∧ (∃ os vm vb, PrAt w' g (.pointer (some ⟨gd, 0, none⟩)) os vm vb false 0 ∧ os 0 = obI c false [] 0 0 (c.st == 0) ∧ ∀ k, 0 < k → os k = zOb) ∧ Below wd.heap.size wd w' ∧ Fr (fun k => k = g) w w'
theorem set_one {B : Nat} {wd w : World} {g gd bi bs : Nat} (hP : PrAt w g (.pointer (some ⟨gd, 0, none⟩)) (fun _ => zOb) (fun _ => .slice none 0 0) (fun _ => .slice none 0 0) false 0) (hD : DictB B wd gd bi bs d1) (hb : Below wd.heap.size wd w) (hg : wd.heap.size ≤ g) (ht : Tbl w) (gl : Nat) (hm : MsAt w (some ⟨gl, 0, none⟩) oneM) (hgl : gl ≠ g) (c : Cm) (hc : cmOk c) (hon : c.on = true) :
    Calls Tryd.prog 40 #[.pointer (some ⟨g, 0, none⟩), .int .i64 0, c.v, .slice (some ⟨gl, 0, none⟩) 1 1] w (SetOne wd w g gd c) := by
  refine (pset_yes B g gd bi bs d1 _ _ _ false 0 0 (by omega) c oneM (some ⟨gl, 0, none⟩) 1 w hP (hD.below hb) d1_good ht hm (fun ad e _ => by injection e with e; subst e; exact hgl) (by decide) oneM_ok hc hon oneD_d1.check).mono ?_
  rintro e w' ⟨rfl, ⟨vm, vb, h1⟩, h2⟩
  have hw := hb.size
  exact ⟨rfl, ⟨_, vm, vb, h1, rfl, fun k hk => upd_ne _ _ (by omega)⟩, hb.trans (fr_belowB h2 hw (fun k hk e => by have : k = g := e; omega)), h2⟩
def StartOne (B : Nat) (w : World) (g gd bi bs : Nat) (c : Cm) (e : Ending) (w' : World) : Prop := e = .returned (.tuple #[]) ∧ P1 B w' g gd bi bs 0 c false [] 0 0 (c.st == 0) ∧ Fr (fun k => k = g) w w'
theorem start_one {B : Nat} {wd w : World} {g gd bi bs : Nat} {os : Nat → Ob} {vm vb : Nat → Value} {c : Cm} (hP : PrAt w g (.pointer (some ⟨gd, 0, none⟩)) os vm vb false 0) (h0 : os 0 = obI c false [] 0 0 (c.st == 0)) (hk : ∀ k, 0 < k → os k = zOb) (hD : DictB B wd gd bi bs d1) (hb : Below wd.heap.size wd w) (hg : wd.heap.size ≤ g) :
    Calls Tryd.prog 43 #[.pointer (some ⟨g, 0, none⟩), .int .i64 0] w (StartOne B w g gd bi bs c) := by
  refine (pstart_any g _ os vm vb false 0 0 w hP ⟨by omega, by omega⟩).mono ?_
  rintro e w' ⟨rfl, ⟨os', vb', h1, h2⟩, h3⟩
  have hl := hD.lt
  have hge := hD.ge
  have hw := hb.size
  refine ⟨rfl, ⟨⟨d1, os', vm, vb', 0, h2, hD.below (hb.trans (fr_belowB h3 hw (fun k hk e => by have : k = g := e; omega))), oneD_d1, ?_, fun k h0 hk8 => ?_⟩, ⟨by omega, by omega, by omega⟩, by omega⟩, h3⟩
  · rw [h1 0 (by omega), h0]
    rfl
  · rw [h1 k hk8, hk k h0]
    exact ⟨rfl, rfl⟩
def cW : Cm := ⟨true, 385, 255, 10, 50, 0⟩
theorem snd0 : sndC cW false [] 0 0 0 = true := by decide
theorem snd5 : sndC cW true [0] 0 0 5 = false := by decide
theorem snd6 : sndC cW true [0] 0 7 6 = false := by decide
theorem snd10 : sndC cW true [0] 0 7 10 = true := by decide
theorem frg_bel {B g : Nat} {w w' : World} (h : Fr (fun k => k = g) w w') (hB : B ≤ w.heap.size) (hg : B ≤ g) : Below B w w' := fr_belowB h hB (fun k hk e => by have : k = g := e; omega)
/-- A row of one byte. -/
theorem argv_lit (w : World) (b : Int) (hb : 0 ≤ b ∧ b < 256) : ArgV (w.alloc (.cells #[.int .u8 b] 5)) (.slice (some ⟨w.heap.size, 0, none⟩) 1 1) [b] :=
  ⟨_, _, rfl, arg_new (w := w) [b] (by intro x hx; simp at hx; subst hx; exact hb) (by simp) rfl, by simp⟩
set_option maxRecDepth 100000 in
set_option maxHeartbeats 8000000 in
theorem works13_any (w : World) (ht : Tbl w) :
    Calls Tryd.prog 42 #[] w fun e w' => e = .returned (.bool true) ∧ Below w.heap.size w w' := by
  have HT := Aside0.mk ht
  clear ht
  have TK0 := Aside0.mk True.intro
  have TK5 := Aside0.mk True.intro
  have TK6 := Aside0.mk True.intro
  have TK10 := Aside0.mk True.intro
  have IS0 := Aside0.mk True.intro
  have IS10 := Aside0.mk True.intro
  go_enter Tryd.func42, Tryd.ntmps42
  go_wp2_with (first
    | (go_at_call 39; refine (began_any w.heap.size w HT.out (Nat.le_refl _)).mono ?_; rintro e w1 ⟨g, gd, bi, bs, wd, rfl, h1, h2, h3, h4, h5, HB1⟩; have H1 := Aside0.mk (And.intro h1 (And.intro h2 (And.intro h3 (And.intro h4 h5)))); replace HB1 := Aside0.mk HB1; have HG := Aside0.mk (show w.heap.size ≤ g by omega); clear h1 h2 h3 h4 h5)
    | (go_at_call 41; refine (lone_any w1).mono ?_; rintro e w2 ⟨gl, rfl, hgl, hm2, hb2⟩; have H2 := Aside0.mk (And.intro hgl (And.intro hm2 hb2)); have HB2 := Aside0.mk (HB1.out.trans (hb2.mono HB1.out.size)); clear hgl hm2 hb2)
    | (go_at_call 40; go_loud (refine (set_one (B := w.heap.size) (wd := wd) (bi := bi) (bs := bs) (H1.out.1.below H2.out.2.2) H1.out.2.1 (H1.out.2.2.1.trans (H2.out.2.2.mono H1.out.2.2.1.size)) H1.out.2.2.2.1 (HT.out.below HB2.out) gl H2.out.2.1 (by have := H1.out.1.lt; have := H2.out.1; omega) cW (by decide) rfl).mono ?_; rintro e w3 ⟨rfl, ⟨os, vm, vb, h1, h2, h3⟩, h4, h5⟩; have H3 := Aside0.mk (And.intro h1 (And.intro h2 (And.intro h3 h4))); have HB3 := Aside0.mk (HB2.out.trans (frg_bel h5 HB2.out.size HG.out)); clear h1 h2 h3 h4 h5))
    | (go_at_call 43; go_loud (refine (start_one (B := w.heap.size) (c := cW) H3.out.1 H3.out.2.1 H3.out.2.2.1 H1.out.2.1 H3.out.2.2.2 H1.out.2.2.2.1).mono ?_; rintro e w4 ⟨rfl, h1, h2⟩; have H4 := Aside0.mk h1; have HB4 := Aside0.mk (HB3.out.trans (frg_bel h2 HB3.out.size HG.out)); clear h1 h2))
    | (go_at_call 45; have _t := TK0; go_loud (refine (tick_yes H4.out (TblB.below HT.out HB4.out) (by decide) rfl 0 (by decide) (by decide) snd0).mono ?_; rintro e w5 ⟨A5, c5, rfl, hf, h1, h2⟩; have HFR5 := Aside0.mk hf; have H5 := Aside0.mk h1; have HB5 := Aside0.mk (HB4.out.trans (h1.bel h2 HB4.out.size)); clear hf h1 h2 _t TK0))
    | (go_at_call 46; have _t := IS0; go_loud (refine (is_one A5 c5 0 (by decide) w5 HFR5.out).mono ?_; rintro e w' ⟨rfl, hw⟩; subst hw; clear _t IS0))
    | (go_at_call 45; have _t := TK5; go_loud (refine (tick_no H5.out (TblB.below HT.out HB5.out) (by decide) rfl 5 (by decide) (by decide) snd5).mono ?_; rintro e w6 ⟨A6, c6, rfl, h1, h2⟩; have H6 := Aside0.mk h1; have HB6 := Aside0.mk (HB5.out.trans (h1.bel h2 HB5.out.size)); clear h1 h2 _t TK5))
    | (go_at_call 44; go_loud (refine (place_any w6).mono ?_; rintro e w7 ⟨rfl, hb⟩; have H7 := Aside0.mk (H6.out.below hb); have HB7 := Aside0.mk (HB6.out.trans (hb.mono HB6.out.size)); clear hb))
    | (go_at_call 20; go_loud (refine (write_one (H7.out.below (below_alloc (Below.refl _ _) _)) (TblB.below HT.out (HB7.out.trans ((below_alloc (Below.refl _ _) _).mono HB7.out.size))) (some ⟨w7.heap.size, 0, none⟩) 1 7 (argv_lit w7 7 (by decide))).mono ?_; rintro e w8 ⟨rfl, h1, h2⟩; have H8 := Aside0.mk h1; have HB8 := Aside0.mk ((HB7.out.trans ((below_alloc (Below.refl _ _) _).mono HB7.out.size)).trans (h1.bel h2 (Nat.le_trans HB7.out.size (by simp)))); clear h1 h2))
    | (go_at_call 45; have _t := TK6; go_loud (refine (tick_no H8.out (TblB.below HT.out HB8.out) (by decide) rfl 6 (by decide) (by decide) snd6).mono ?_; rintro e w9 ⟨A9, c9, rfl, h1, h2⟩; have H9 := Aside0.mk h1; have HB9 := Aside0.mk (HB8.out.trans (h1.bel h2 HB8.out.size)); clear h1 h2 _t TK6))
    | (go_at_call 45; have _t := TK10; go_loud (refine (tick_yes H9.out (TblB.below HT.out HB9.out) (by decide) rfl 10 (by decide) (by decide) snd10).mono ?_; rintro e w10 ⟨A10, c10, rfl, hf, h1, h2⟩; have HFR10 := Aside0.mk hf; have H10 := Aside0.mk h1; have HB10 := Aside0.mk (HB9.out.trans (h1.bel h2 HB9.out.size)); clear hf h1 h2 _t TK10))
    | (go_at_call 46; have _t := IS10; go_loud (refine (is_one A10 c10 7 (by decide) w10 HFR10.out).mono ?_; rintro e w' ⟨rfl, hw⟩; subst hw; clear _t IS10)))
  go_ret
  exact ⟨rfl, HB10.out⟩
end Go.Proofs.YtokebpeplopjhaaDoor.Mp
namespace Go.Proofs.YtokebpeplopjhaaDoor.Mp
open Go.RowKit Go.Shelf Go.Proofs.YtokebpeplopjhaaDoor.Rng Go.Proofs.YtokebpeplopjhaaDoorW.PrintWords Go.Proofs.YtokebpeplopjhaaDoorW.PrintMore
open Go.ChangeShapes Go.WideShapes Go.Deep

/-- A moment. -/
structure Mo where
  by_ : Int
  wr : Bool
  b : Int
structure Mo.Wf (m : Mo) : Prop where
  by_ : 0 ≤ m.by_ ∧ m.by_ < 256
  b : 0 ≤ m.b ∧ m.b < 256
def MosAt (w : World) (A : Option Addr) (l : List Mo) : Prop := ∀ (j : Nat) m, l[j]? = some m → ∃ ad, A = some ad ∧ w.cell? (ad.add (j * 3)) = some (.int .u8 m.by_) ∧ w.cell? ⟨(ad.add (j * 3)).block, (ad.add (j * 3)).off + 1, none⟩ = some (.bool m.wr) ∧ w.cell? ⟨(ad.add (j * 3)).block, (ad.add (j * 3)).off + 2, none⟩ = some (.int .u8 m.b)
theorem MosAt.below {w w' : World} {A : Option Addr} {l : List Mo} (h : MosAt w A l) (hb : Below w.heap.size w w') : MosAt w' A l := by
  intro j m hj
  obtain ⟨ad, hA, h1, h2, h3⟩ := h j m hj
  exact ⟨ad, hA, pw_cell_below hb h1, pw_cell_below hb h2, pw_cell_below hb h3⟩
theorem cells_mo : Tryd.prog.cellsOf 87 = 3 := by kernel_rfl
theorem cells_bool : Tryd.prog.cellsOf 4 = 1 := by kernel_rfl
theorem bytes_mo : Tryd.prog.bytesOf 87 = 3 := by kernel_rfl
section
variable {H : Type} {enc : TypeId × Value → H} {W : World} {held : Bool}
set_option maxRecDepth 100000 in
theorem open_mo {fuel : Nat} {cs : List Value} {x : DataW H × List MemPlace} (h : DataW.trod enc Tryd.prog W 0 (fun _ => true) held fuel 87 cs = some x) :
    ∃ m : Mo, cs = [.int .u8 m.by_, .bool m.wr, .int .u8 m.b] ∧ m.Wf := by
  obtain ⟨xs, n, rfl, hx, hcl, hxl, hf⟩ := DataW.trod_struct Tryd.underlying87 h
  rw [cells_mo] at hcl
  match xs, hxl, cs, hcl with
  | [y0, y1, y2], _, [c0, c1, c2], _ =>
    have g0 := hf 0 _ rfl
    have g1 := hf 1 _ rfl
    have g2 := hf 2 _ rfl
    simp [cells_8, cells_bool] at g0 g1 g2
    obtain ⟨i0, e0, -, w0⟩ := DataW.trod_int Tryd.underlying5 g0
    obtain ⟨i1, e1, -⟩ := DataW.trod_bool Tryd.underlying4 g1
    obtain ⟨i2, e2, -, w2⟩ := DataW.trod_int Tryd.underlying5 g2
    injection e0 with e0
    injection e1 with e1
    injection e2 with e2
    subst e0 e1 e2
    exact ⟨⟨i0, i1, i2⟩, rfl, ⟨wf_u8 w0, wf_u8 w2⟩⟩
/-- A row of moments. -/
theorem open_mos {v : Value} {d : DataW H} {p : List MemPlace} (h : DataW.Trod enc Tryd.prog W 0 (fun _ => true) held 77 v d p) (hv : v.cells.toList = [v]) (hwt : ∀ n ∈ d.weights Tryd.prog 77, n ≤ reachBytes) :
    ∃ (l : List Mo) (A : Option Addr) (c : Nat), v = .slice A l.length c ∧ MosAt W A l ∧ (∀ m ∈ l, m.Wf) ∧ l.length ≤ 140737488355328 := by
  obtain ⟨fuel, hf⟩ := h
  rw [hv] at hf
  have h3 : reachBytes = 140737488351232 := rfl
  rcases open_slice Tryd.underlying77 hf with ⟨hcs, hx⟩ | ⟨a, len, cap, m, n, D, Pl, hcs, _, hl, hm, hmm, hx, hel⟩
  · injection hcs with hcs
    subst hcs
    exact ⟨[], none, 0, rfl, (fun j e hj => by simp at hj), (by intro x hx; cases hx), Nat.zero_le _⟩
  · injection hcs with hcs
    subst hcs
    rw [if_pos rfl] at hmm
    subst hmm
    rw [cells_mo] at hel hx
    obtain ⟨hd, -⟩ := Prod.mk.inj hx
    subst hd
    have hwl : len ≤ reachBytes := by
      have h1 := hwt _ (by
        simp only [DataW.weights, Tryd.underlying77]
        exact List.mem_cons.2 (.inl rfl))
      rw [bytes_mo] at h1
      simp only [List.length_map, List.length_range] at h1
      omega
    have each : ∀ i, i < len → ∃ q : Mo, W.cells? 0 (a.add (i * 3)) 3 = some [.int .u8 q.by_, .bool q.wr, .int .u8 q.b] ∧ q.Wf := by
      intro i hi
      obtain ⟨cs', h1, h2⟩ := hel i (by omega)
      obtain ⟨q, rfl, hw⟩ := open_mo h2
      exact ⟨q, h1, hw⟩
    haveI : Inhabited Mo := ⟨⟨0, false, 0⟩⟩
    obtain ⟨q, hq⟩ := choose_lt each
    have hlen : ((List.range len).map q).length = len := by simp
    refine ⟨(List.range len).map q, some a, m, by rw [hlen], fun j e hj => ?_, fun x hx => ?_, by omega⟩
    · have hjl : j < len := by have := (List.getElem?_eq_some_iff.1 hj).1; omega
      obtain ⟨h1, _⟩ := hq j hjl
      have hxe : e = q j := by
        rw [List.getElem?_map, List.getElem?_range hjl] at hj
        exact (Option.some.inj hj).symm
      subst hxe
      obtain ⟨_, _, hcell⟩ := World.cells?_some h1
      have f : ∀ (i : Nat) u, 0 < i → i < 3 → [Value.int .u8 (q j).by_, .bool (q j).wr, .int .u8 (q j).b][i]? = some u → W.cell? ⟨(a.add (j * 3)).block, (a.add (j * 3)).off + i, none⟩ = some u := fun i u h0 hi hu => by
        have h5 := hcell i (by simpa using hi)
        rw [← add_field _ _ i h0, ← Go.Deep.add_add]
        first | exact h5.trans hu | (rw [h5]; exact hu)
      refine ⟨a, rfl, ?_, f 1 _ (by omega) (by omega) rfl, f 2 _ (by omega) (by omega) rfl⟩
      have h5 := hcell 0 (by simp)
      rw [Go.Deep.add_add, Nat.add_zero] at h5
      simpa using h5
    · obtain ⟨i, hi, rfl⟩ := List.mem_map.1 hx
      exact (hq i (List.mem_range.1 hi)).2
end
end Go.Proofs.YtokebpeplopjhaaDoor.Mp
namespace Go.Proofs.YtokebpeplopjhaaDoor.Mp
open Go.RowKit Go.Shelf Go.Proofs.YtokebpeplopjhaaDoor.Rng Go.Proofs.YtokebpeplopjhaaDoorW.PrintWords Go.Proofs.YtokebpeplopjhaaDoorW.PrintMore Go.Proofs.YtokebpeplopjhaaDoorW.PrintLast

/-- What stays in memory from moment to moment. -/
def InhAt (B : Nat) (w0 w : World) (g gd bi bs : Nat) (inh ev now last v told : Int) : Prop := (∃ s bts a k bg, Inv now last told s bts a ∧ P1 B w g gd bi bs v (cI 254 inh ev) s bts a k bg) ∧ Fr (fun k => k = g ∨ k = gd ∨ k = bi) w0 w
set_option maxRecDepth 100000 in
set_option maxHeartbeats 8000000 in
theorem inhibits_any (inh0 ev0 : Int) (hi0 : 0 ≤ inh0 ∧ inh0 < 256) (he0 : 0 ≤ ev0 ∧ ev0 < 256) (l : List Mo) (A : Option Addr) (c : Nat) (w : World) (hl : MosAt w A l) (hw : ∀ m ∈ l, m.Wf) (hlen : l.length ≤ 140737488355328) (ht : Tbl w) :
    Calls Tryd.prog 11 #[.int .u8 inh0, .int .u8 ev0, .slice A l.length c] w fun e w' => e = .returned (.bool true) ∧ Below w.heap.size w w' := by
  have HL := Aside0.mk hl
  have HW := Aside0.mk hw
  have HT := Aside0.mk ht
  obtain ⟨n, hn⟩ : ∃ n, l.length = n := ⟨_, rfl⟩
  have HN := Aside0.mk hn
  rw [hn] at hlen ⊢
  obtain ⟨inh, hinh⟩ : ∃ inh, inh0 % 200 = inh := ⟨_, rfl⟩
  obtain ⟨ev, hev⟩ : ∃ ev, ev0 % 200 = ev := ⟨_, rfl⟩
  have hi2 : 0 ≤ inh ∧ inh < 200 := by omega
  have he2 : 0 ≤ ev ∧ ev < 200 := by omega
  have hcm : cmOk (cI 254 inh ev) := ⟨(by decide : (385 : Int) ≤ 2047), .inr (by decide : (254 : Int) ≤ 254), ⟨by show 0 ≤ inh; omega, by show inh ≤ 1099511627776; omega⟩, ⟨by show 0 ≤ ev; omega, by show ev ≤ 1099511627776; omega⟩, (by decide : (0 : Int) ≤ 240)⟩
  have HCM := Aside0.mk hcm
  have t1 : Int.tmod inh0 200 = inh := by rw [Int.tmod_eq_emod_of_nonneg hi0.1]; exact hinh
  have t2 : Int.tmod ev0 200 = ev := by rw [Int.tmod_eq_emod_of_nonneg he0.1]; exact hev
  obtain ⟨hi01, hi02⟩ := hi0
  obtain ⟨he01, he02⟩ := he0
  obtain ⟨hi21, hi22⟩ := hi2
  obtain ⟨he21, he22⟩ := he2
  clear hl hw ht hn hcm
  by_cases h60 : 60 < n
  case pos =>
    have d60 : decide ((60 : Int) < (n : Int)) = true := decide_eq_true (by omega)
    go_enter Tryd.func11, Tryd.ntmps11
    go_wp2_with (go_at_call 39; refine (began_any w.heap.size w HT.out (Nat.le_refl _)).mono ?_; rintro e w1 ⟨g, gd, bi, bs, wd, rfl, h1, h2, h3, h4, h5, HB1⟩; replace HB1 := Aside0.mk HB1; clear h1 h2 h3 h4 h5)
    go_quiet (fail)
    rename Nat => nq
    have HB2 := Aside0.mk (show Below w.heap.size w ((w1.alloc (.cells #[.bool true, .int .u16 385, .int .u8 254, .int .i64 inh, .int .i64 ev, .int .u8 0] 82)).drewN nq) from below_drewN (HB1.out.trans ((below_alloc (Below.refl _ _) _).mono HB1.out.size)) _)
    go_wp2_with (go_at_call 42; go_loud (refine (works13_any _ (HT.out.below HB2.out)).mono ?_; rintro e w3 ⟨rfl, hb3⟩; have HB3 := Aside0.mk (HB2.out.trans (hb3.mono HB2.out.size)); clear hb3))
    go_ret
    exact ⟨rfl, HB3.out⟩
  case neg =>
    have d60 : decide ((60 : Int) < (n : Int)) = false := decide_eq_false (by omega)
    go_enter Tryd.func11, Tryd.ntmps11
    go_wp2_with (go_at_call 39; refine (began_any w.heap.size w HT.out (Nat.le_refl _)).mono ?_; rintro e w1 ⟨g, gd, bi, bs, wd, rfl, h1, h2, h3, h4, h5, HB1⟩; have H1 := Aside0.mk (And.intro h1 (And.intro h2 (And.intro h3 (And.intro h4 h5)))); replace HB1 := Aside0.mk HB1; have HG := Aside0.mk (show w.heap.size ≤ g by omega); clear h1 h2 h3 h4 h5)
    have hx1 : Below w1.heap.size w1 (w1.alloc (.cells #[.bool true, .int .u16 385, .int .u8 254, .int .i64 inh, .int .i64 ev, .int .u8 0] 82)) := below_alloc (Below.refl _ _) _
    have hbk := blk_new w1 (.cells #[.bool true, .int .u16 385, .int .u8 254, .int .i64 inh, .int .i64 ev, .int .u8 0] 82)
    have hgl := H1.out.1.lt
    have hne1 : w1.heap.size ≠ g := by omega
    obtain ⟨bx, hbx⟩ : ∃ bx, bx = w1.heap.size := ⟨_, rfl⟩
    rw [← hbx] at hne1
    have HX1 := Aside0.mk hx1
    rw [← hbx] at hbk
    generalize w1.alloc (.cells #[.bool true, .int .u16 385, .int .u8 254, .int .i64 inh, .int .i64 ev, .int .u8 0] 82) = w2 at hx1 HX1 hbk ⊢
    rw [← hbx]
    have HBX := Aside0.mk hbk
    have HBXE := Aside0.mk hbx
    have hS0 : Fr (fun k => k = g) w2 w2.drew := Fr.of_below (below_drew (Below.refl _ _))
    have u0 : ∀ X, Fr (fun k => k = g) w2 X → X.cell? ⟨bx, 0, none⟩ = some (.bool true) := fun X hX => hX.cell (Go.Proofs.YtokebpeplopjhaaDoorW.PrintWords.blk_cell hbk 0) hne1
    have u1 : ∀ X, Fr (fun k => k = g) w2 X → X.cell? ⟨bx, 1, none⟩ = some (.int .u16 385) := fun X hX => hX.cell (Go.Proofs.YtokebpeplopjhaaDoorW.PrintWords.blk_cell hbk 1) hne1
    have u2 : ∀ X, Fr (fun k => k = g) w2 X → X.cell? ⟨bx, 2, none⟩ = some (.int .u8 254) := fun X hX => hX.cell (Go.Proofs.YtokebpeplopjhaaDoorW.PrintWords.blk_cell hbk 2) hne1
    have u3 : ∀ X, Fr (fun k => k = g) w2 X → X.cell? ⟨bx, 3, none⟩ = some (.int .i64 inh) := fun X hX => hX.cell (Go.Proofs.YtokebpeplopjhaaDoorW.PrintWords.blk_cell hbk 3) hne1
    have u4 : ∀ X, Fr (fun k => k = g) w2 X → X.cell? ⟨bx, 4, none⟩ = some (.int .i64 ev) := fun X hX => hX.cell (Go.Proofs.YtokebpeplopjhaaDoorW.PrintWords.blk_cell hbk 4) hne1
    have u5 : ∀ X, Fr (fun k => k = g) w2 X → X.cell? ⟨bx, 5, none⟩ = some (.int .u8 0) := fun X hX => hX.cell (Go.Proofs.YtokebpeplopjhaaDoorW.PrintWords.blk_cell hbk 5) hne1
    clear hx1 hbk hbx
    go_region_held3 (fun X => Fr (fun k => k = g) w2 X) (first | assumption | exact hS0)
      (first
        | (go_at_call 41; go_loud (refine (lone_any _).mono ?_; rintro e w3 ⟨gl, rfl, hgl3, hm3, hb3⟩; have hs3 : Fr (fun k => k = g) w2 w3 := (Fr.of_below (below_drew (Below.refl _ _))).trans (Fr.of_below hb3); have HB3 := Aside0.mk (show Below w2.heap.size w2 w3 from below_step (below_drew (Below.refl _ _)) hb3); have HM3 := Aside0.mk (And.intro hm3 hgl3); clear hm3 hgl3 hb3))
        | (go_at_call 40; go_loud (refine (set_one (B := w.heap.size) (wd := wd) (bi := bi) (bs := bs) (H1.out.1.below (HX1.out.trans (HB3.out.mono HX1.out.size))) H1.out.2.1 (H1.out.2.2.1.trans ((HX1.out.trans (HB3.out.mono HX1.out.size)).mono H1.out.2.2.1.size)) H1.out.2.2.2.1 (HT.out.below (HB1.out.trans ((HX1.out.trans (HB3.out.mono HX1.out.size)).mono HB1.out.size))) gl HM3.out.1 (by have h1 := HM3.out.2; have h2 := HX1.out.size; simp at h1; omega) (cI 254 inh ev) HCM.out rfl).mono ?_; rintro e w4 ⟨rfl, ⟨os, vm, vb, h1, h2, h3⟩, h4, h5⟩; have hs4 : Fr (fun k => k = g) w2 w4 := hs3.trans h5; have H4 := Aside0.mk (And.intro h1 (And.intro h2 (And.intro h3 (And.intro h4 hs4)))); clear h1 h2 h3 h4 h5)))
    go_wp2_with (go_at_call 43; go_loud (refine (start_one (B := w.heap.size) (c := cI 254 inh ev) H4.out.1 H4.out.2.1 H4.out.2.2.1 H1.out.2.1 H4.out.2.2.2.1 H1.out.2.2.2.1).mono ?_; rintro e w5 ⟨rfl, h1, h2⟩; have H5 := Aside0.mk (And.intro h1 (H4.out.2.2.2.2.trans h2)); clear h1 h2))
    have hs5 := H5.out.2
    have HY := Aside0.mk (show w5.cell? ⟨bx, 3, none⟩ = some (.int .i64 inh) ∧ w5.cell? ⟨bx, 4, none⟩ = some (.int .i64 ev) from And.intro (hs5.cell (Go.Proofs.YtokebpeplopjhaaDoorW.PrintWords.blk_cell HBX.out 3) hne1) (hs5.cell (Go.Proofs.YtokebpeplopjhaaDoorW.PrintWords.blk_cell HBX.out 4) hne1))
    have HB5 := Aside0.mk ((HB1.out.trans (HX1.out.mono HB1.out.size)).trans (frg_bel hs5 (Nat.le_trans HB1.out.size HX1.out.size) HG.out))
    have HNE := Aside0.mk (show ¬ (bx = g ∨ bx = gd ∨ bx = bi) by
      have h1 := H1.out.2.1.lt
      have h2 := H1.out.2.2.1.size
      have h3 := HBXE.out
      omega)
    have HI0 := Aside0.mk (show InhAt w.heap.size w5 w5 g gd bi bs inh ev 0 (-1) 0 0 from ⟨⟨false, [], 0, 0, _, ⟨by omega, .inl ⟨rfl, rfl, rfl, rfl, rfl⟩⟩, H5.out.1⟩, Fr.refl _ _⟩)
    have HLB := Aside0.mk fun (X : World) (hX : Below w.heap.size w X) => HL.out.below hX
    clear hs3 hs4 hs5 u0 u1 u2 u3 u4 u5 hS0 H4 HM3 HB3 HX1 HBX HBXE H1 H5 HCM hgl hne1 d60 t1 t2 hinh hev hi01 hi02 he01 he02 hlen
    go_loopw [10, 11, 12, 13, 14] (fun nv lv vv tv iv wr => ∃ (i : Nat) (now last v told : Int), i ≤ n ∧ iv = .int .i64 i ∧ nv = .int .i64 now ∧ lv = .int .i64 last ∧ vv = .int .u8 v ∧ tv = .int .u8 told ∧ 0 ≤ now ∧ now ≤ 20 * (i : Int) ∧ -1 ≤ last ∧ last ≤ now ∧ Aside0 (InhAt w.heap.size w5 wr g gd bi bs inh ev now last v told)) (fun _ _ _ _ iv _ => n - (intOf iv).toNat)
    case atStart => exact ⟨0, 0, -1, 0, 0, Nat.zero_le _, rfl, rfl, rfl, rfl, rfl, by omega, by omega, by omega, by omega, HI0⟩
    case round =>
      obtain ⟨i, now, last, v, told, hi, rfl, rfl, rfl, rfl, rfl, hn0, hn1, hl0, hl1, HI⟩ := hrel
      by_cases hlt : i < n
      · obtain ⟨m, hmk⟩ : ∃ m, l[i]? = some m := ⟨_, List.getElem?_eq_getElem (by rw [HN.out]; exact hlt)⟩
        obtain ⟨hb1, hb2⟩ := HW.out m (List.mem_of_getElem? hmk)
        obtain ⟨⟨s, bts, a, kk, bg, hinv, hp1⟩, hfr⟩ := HI.out
        have hbel := HB5.out.trans ((hp1.bel hfr HB5.out.size).mono (Nat.le_refl _))
        obtain ⟨ad, rfl, m0, m1, m2⟩ := HLB.out wr hbel i m hmk
        have HM0 := Aside0.mk fun (X : World) (hX : Below w.heap.size w X) => (show X.cell? (ad.add (i * 3)) = some (.int .u8 m.by_) from by
          obtain ⟨ad', e, q0, -⟩ := HLB.out X hX i m hmk
          injection e with e
          subst e
          exact q0)
        obtain ⟨by_, wrb, bb⟩ := m
        simp only at hb1 hb2 m0 m1 m2 HM0
        obtain ⟨q, hq⟩ : ∃ q, by_ % 20 = q := ⟨_, rfl⟩
        have hq0 : 0 ≤ q ∧ q < 20 := by omega
        have HQ := Aside0.mk hq
        obtain ⟨hq00, hq01⟩ := hq0
        obtain ⟨hb10, hb11⟩ := hb1
        have hi1 : (i : Int) < (n : Int) := by omega
        have HINV := Aside0.mk hinv
        have HP1 := Aside0.mk (And.intro hp1 (And.intro hfr hbel))
        clear hmk hinv hp1 hfr hbel hq
        have hi60 : (i : Int) ≤ 60 := by omega
        cases wrb with
        | true =>
          obtain ⟨vq, rfl⟩ : ∃ vq, vq = bb := ⟨_, rfl⟩
          rename World => wi
          have HB2 := Aside0.mk hb2
          have HINV2 := Aside0.mk HINV.out
          clear HINV m0 HI0 HW HL HLB HI
          go_wp2_with (first
            | (go_at_call 44; go_loud (refine (place_any wi).mono ?_; rintro e w6 ⟨rfl, hb6⟩; have HB6 := Aside0.mk hb6; clear hb6))
            | (go_at_call 20; go_loud (refine (write_one ((HP1.out.1.below HB6.out).below (below_alloc (Below.refl _ _) _)) (TblB.below HT.out (HP1.out.2.2.trans ((below_step HB6.out (below_alloc (Below.refl _ _) _)).mono HP1.out.2.2.size))) (some ⟨w6.heap.size, 0, none⟩) 1 vq (argv_lit w6 vq HB2.out)).mono ?_; rintro e w7 ⟨rfl, h1, h2⟩; have HI := Aside0.mk (show InhAt w.heap.size w5 w7 g gd bi bs inh ev now last vq told from ⟨⟨_, _, _, _, _, HINV2.out, h1⟩, (HP1.out.2.1.trans ((Fr.of_below HB6.out).trans (Fr.of_below (below_alloc (Below.refl _ _) _)))).trans h2⟩); clear h1 h2)))
          go_loopw [10, 11, 13, 15] (fun nv lv tv kv wr => ∃ (k : Nat) (nw ls td : Int), kv = .int .i64 k ∧ nv = .int .i64 nw ∧ lv = .int .i64 ls ∧ tv = .int .u8 td ∧ (k : Int) ≤ q + 1 ∧ 0 ≤ nw ∧ nw ≤ 20 * (i : Int) + k ∧ -1 ≤ ls ∧ ls ≤ nw ∧ Aside0 (InhAt w.heap.size w5 wr g gd bi bs inh ev nw ls vq td)) (fun _ _ _ kv _ => (q + 1).toNat - (intOf kv).toNat)
          case atStart => exact ⟨0, now, last, told, rfl, rfl, rfl, rfl, by omega, by omega, by omega, by omega, by omega, HI⟩
          case round =>
            obtain ⟨k, nw, ls, td, rfl, rfl, rfl, rfl, hk, hw0, hw1, hl2, hl3, HI⟩ := hrel
            obtain ⟨⟨s2, bts2, a2, kk2, bg2, hinv2, hp2⟩, hfr2⟩ := HI.out
            have hbel2 := HB5.out.trans ((hp2.bel hfr2 HB5.out.size).mono (Nat.le_refl _))
            have m0 := HM0.out wr hbel2
            have hq := HQ.out
            have hqt : Int.tmod by_ 20 = q := by rw [Int.tmod_eq_emod_of_nonneg hb10]; exact hq
            by_cases hlt2 : (k : Int) ≤ q
            · by_cases hs : sndC (cI 254 inh ev) s2 bts2 a2 vq nw = true
              · obtain ⟨hy1, hinv3⟩ := inv_yes hinv2 hs
                have HTK := Aside0.mk (tick_yes hp2 (TblB.below HT.out hbel2) ⟨rfl, (by decide : (254 : Int) ≤ 254)⟩ rfl nw ⟨by omega, by omega⟩ ⟨by have := hinv2.bnd; omega, by have := hinv2.bnd; omega⟩ hs)
                have HI2 := Aside0.mk (And.intro hfr2 hinv3)
                have hvq := hp2.byt
                have HVQ := Aside0.mk hvq
                clear hs hinv2 hp2 hinv3 hbel2 hvq
                go_wp2_with (go_at_call 45; go_loud (refine HTK.out.mono ?_; rintro e w7 ⟨A7, c7, rfl, hf, h1, h2⟩; have HFR := Aside0.mk hf; have hfr7 := HI2.out.1.trans h2; have HI3 := Aside0.mk (show InhAt w.heap.size w5 w7 g gd bi bs inh ev (nw + 1) nw vq vq from ⟨⟨_, _, _, _, _, HI2.out.2, h1⟩, hfr7⟩); have y3 := hfr7.cell HY.out.1 HNE.out; have y4 := hfr7.cell HY.out.2 HNE.out; clear hf h1 h2 hfr7))
                by_cases hls : ls < 0
                · have dl : decide ((0 : Int) ≤ ls) = false := decide_eq_false (by omega)
                  go_wp2_with (go_at_call 46; go_loud (refine (is_one A7 c7 vq HVQ.out _ HFR.out).mono ?_; rintro e w' ⟨rfl, hw⟩; subst hw))
                  all_goals
                    go_roundw
                    case rel => exact ⟨k + 1, nw + 1, nw, vq, by go_num, rfl, rfl, rfl, by omega, by omega, by omega, by omega, by omega, HI3⟩
                    case measure => simp [intOf]; omega
                · have dl : decide ((0 : Int) ≤ ls) = true := decide_eq_true (by omega)
                  have dn : decide (nw - ls < inh) = false := decide_eq_false (by omega)
                  go_wp2_with (go_at_call 46; go_loud (refine (is_one A7 c7 vq HVQ.out _ HFR.out).mono ?_; rintro e w' ⟨rfl, hw⟩; subst hw))
                  all_goals
                    go_roundw
                    case rel => exact ⟨k + 1, nw + 1, nw, vq, by go_num, rfl, rfl, rfl, by omega, by omega, by omega, by omega, by omega, HI3⟩
                    case measure => simp [intOf]; omega
              · have hs : sndC (cI 254 inh ev) s2 bts2 a2 vq nw = false := by simpa using hs
                obtain ⟨hy1, hy2, hy3, hy4, hinv3⟩ := inv_no hinv2 hs
                have HTK := Aside0.mk (tick_no hp2 (TblB.below HT.out hbel2) ⟨rfl, (by decide : (254 : Int) ≤ 254)⟩ rfl nw ⟨by omega, by omega⟩ ⟨by have := hinv2.bnd; omega, by have := hinv2.bnd; omega⟩ hs)
                have HI2 := Aside0.mk (And.intro hfr2 hinv3)
                clear hs hinv2 hp2 hinv3 hbel2
                have dl : decide (ls < 0) = false := decide_eq_false (by omega)
                go_wp2_with (go_at_call 45; go_loud (refine HTK.out.mono ?_; rintro e w7 ⟨A7, c7, rfl, h1, h2⟩; have hfr7 := HI2.out.1.trans h2; have HI3 := Aside0.mk (show InhAt w.heap.size w5 w7 g gd bi bs inh ev (nw + 1) ls vq td from ⟨⟨_, _, _, _, _, HI2.out.2, h1⟩, hfr7⟩); have HI4 := Aside0.mk (fun (e : td = vq) => (show InhAt w.heap.size w5 w7 g gd bi bs inh ev (nw + 1) ls vq vq from by have h := HI3.out; rw [e] at h; exact h)); have y3 := hfr7.cell HY.out.1 HNE.out; have y4 := hfr7.cell HY.out.2 HNE.out; clear h1 h2 hfr7))
                all_goals
                  go_roundw
                  case rel => first | exact ⟨k + 1, nw + 1, ls, td, by go_num, rfl, rfl, rfl, by omega, by omega, by omega, by omega, by omega, HI3⟩ | exact ⟨k + 1, nw + 1, ls, vq, by go_num, rfl, rfl, rfl, by omega, by omega, by omega, by omega, by omega, ⟨HI4.out (by assumption)⟩⟩
                  case measure => simp [intOf]; omega
            · have hkq : (k : Int) = q + 1 := by omega
              have dq : decide ((k : Int) ≤ q) = false := decide_eq_false hlt2
              clear hkq
              go_wp2
              go_roundw
              case rel => exact ⟨i + 1, nw, ls, vq, td, by omega, by go_num, rfl, rfl, rfl, rfl, by omega, by omega, by omega, by omega, HI⟩
              case measure => simp [intOf]; omega
        | false =>
          obtain ⟨vq, rfl⟩ : ∃ vq, vq = v := ⟨_, rfl⟩
          rename World => wi
          clear HP1 HINV m0 m2 HI0 HW HL HLB
          go_wp2
          go_loopw [10, 11, 13, 15] (fun nv lv tv kv wr => ∃ (k : Nat) (nw ls td : Int), kv = .int .i64 k ∧ nv = .int .i64 nw ∧ lv = .int .i64 ls ∧ tv = .int .u8 td ∧ (k : Int) ≤ q + 1 ∧ 0 ≤ nw ∧ nw ≤ 20 * (i : Int) + k ∧ -1 ≤ ls ∧ ls ≤ nw ∧ Aside0 (InhAt w.heap.size w5 wr g gd bi bs inh ev nw ls vq td)) (fun _ _ _ kv _ => (q + 1).toNat - (intOf kv).toNat)
          case atStart => exact ⟨0, now, last, told, rfl, rfl, rfl, rfl, by omega, by omega, by omega, by omega, by omega, HI⟩
          case round =>
            obtain ⟨k, nw, ls, td, rfl, rfl, rfl, rfl, hk, hw0, hw1, hl2, hl3, HI⟩ := hrel
            obtain ⟨⟨s2, bts2, a2, kk2, bg2, hinv2, hp2⟩, hfr2⟩ := HI.out
            have hbel2 := HB5.out.trans ((hp2.bel hfr2 HB5.out.size).mono (Nat.le_refl _))
            have m0 := HM0.out wr hbel2
            have hq := HQ.out
            have hqt : Int.tmod by_ 20 = q := by rw [Int.tmod_eq_emod_of_nonneg hb10]; exact hq
            by_cases hlt2 : (k : Int) ≤ q
            · by_cases hs : sndC (cI 254 inh ev) s2 bts2 a2 vq nw = true
              · obtain ⟨hy1, hinv3⟩ := inv_yes hinv2 hs
                have HTK := Aside0.mk (tick_yes hp2 (TblB.below HT.out hbel2) ⟨rfl, (by decide : (254 : Int) ≤ 254)⟩ rfl nw ⟨by omega, by omega⟩ ⟨by have := hinv2.bnd; omega, by have := hinv2.bnd; omega⟩ hs)
                have HI2 := Aside0.mk (And.intro hfr2 hinv3)
                have hvq := hp2.byt
                have HVQ := Aside0.mk hvq
                clear hs hinv2 hp2 hinv3 hbel2 hvq
                go_wp2_with (go_at_call 45; go_loud (refine HTK.out.mono ?_; rintro e w7 ⟨A7, c7, rfl, hf, h1, h2⟩; have HFR := Aside0.mk hf; have hfr7 := HI2.out.1.trans h2; have HI3 := Aside0.mk (show InhAt w.heap.size w5 w7 g gd bi bs inh ev (nw + 1) nw vq vq from ⟨⟨_, _, _, _, _, HI2.out.2, h1⟩, hfr7⟩); have y3 := hfr7.cell HY.out.1 HNE.out; have y4 := hfr7.cell HY.out.2 HNE.out; clear hf h1 h2 hfr7))
                by_cases hls : ls < 0
                · have dl : decide ((0 : Int) ≤ ls) = false := decide_eq_false (by omega)
                  go_wp2_with (go_at_call 46; go_loud (refine (is_one A7 c7 vq HVQ.out _ HFR.out).mono ?_; rintro e w' ⟨rfl, hw⟩; subst hw))
                  all_goals
                    go_roundw
                    case rel => exact ⟨k + 1, nw + 1, nw, vq, by go_num, rfl, rfl, rfl, by omega, by omega, by omega, by omega, by omega, HI3⟩
                    case measure => simp [intOf]; omega
                · have dl : decide ((0 : Int) ≤ ls) = true := decide_eq_true (by omega)
                  have dn : decide (nw - ls < inh) = false := decide_eq_false (by omega)
                  go_wp2_with (go_at_call 46; go_loud (refine (is_one A7 c7 vq HVQ.out _ HFR.out).mono ?_; rintro e w' ⟨rfl, hw⟩; subst hw))
                  all_goals
                    go_roundw
                    case rel => exact ⟨k + 1, nw + 1, nw, vq, by go_num, rfl, rfl, rfl, by omega, by omega, by omega, by omega, by omega, HI3⟩
                    case measure => simp [intOf]; omega
              · have hs : sndC (cI 254 inh ev) s2 bts2 a2 vq nw = false := by simpa using hs
                obtain ⟨hy1, hy2, hy3, hy4, hinv3⟩ := inv_no hinv2 hs
                have HTK := Aside0.mk (tick_no hp2 (TblB.below HT.out hbel2) ⟨rfl, (by decide : (254 : Int) ≤ 254)⟩ rfl nw ⟨by omega, by omega⟩ ⟨by have := hinv2.bnd; omega, by have := hinv2.bnd; omega⟩ hs)
                have HI2 := Aside0.mk (And.intro hfr2 hinv3)
                clear hs hinv2 hp2 hinv3 hbel2
                have dl : decide (ls < 0) = false := decide_eq_false (by omega)
                go_wp2_with (go_at_call 45; go_loud (refine HTK.out.mono ?_; rintro e w7 ⟨A7, c7, rfl, h1, h2⟩; have hfr7 := HI2.out.1.trans h2; have HI3 := Aside0.mk (show InhAt w.heap.size w5 w7 g gd bi bs inh ev (nw + 1) ls vq td from ⟨⟨_, _, _, _, _, HI2.out.2, h1⟩, hfr7⟩); have HI4 := Aside0.mk (fun (e : td = vq) => (show InhAt w.heap.size w5 w7 g gd bi bs inh ev (nw + 1) ls vq vq from by have h := HI3.out; rw [e] at h; exact h)); have y3 := hfr7.cell HY.out.1 HNE.out; have y4 := hfr7.cell HY.out.2 HNE.out; clear h1 h2 hfr7))
                all_goals
                  go_roundw
                  case rel => first | exact ⟨k + 1, nw + 1, ls, td, by go_num, rfl, rfl, rfl, by omega, by omega, by omega, by omega, by omega, HI3⟩ | exact ⟨k + 1, nw + 1, ls, vq, by go_num, rfl, rfl, rfl, by omega, by omega, by omega, by omega, by omega, ⟨HI4.out (by assumption)⟩⟩
                  case measure => simp [intOf]; omega
            · have hkq : (k : Int) = q + 1 := by omega
              have dq : decide ((k : Int) ≤ q) = false := decide_eq_false hlt2
              clear hkq
              go_wp2
              go_roundw
              case rel => exact ⟨i + 1, nw, ls, vq, td, by omega, by go_num, rfl, rfl, rfl, rfl, by omega, by omega, by omega, by omega, HI⟩
              case measure => simp [intOf]; omega
      · obtain rfl : i = n := by omega
        obtain ⟨⟨s, bts, a, kk, bg, hinv, hp1⟩, hfr⟩ := HI.out
        have HBE := Aside0.mk (HB5.out.trans ((hp1.bel hfr HB5.out.size).mono (Nat.le_refl _)))
        clear hinv hp1 hfr
        go_wp2_with (go_at_call 42; go_loud (refine (works13_any _ (HT.out.below HBE.out)).mono ?_; rintro e w7 ⟨rfl, hb7⟩; have HB7 := Aside0.mk (HBE.out.trans (hb7.mono HBE.out.size)); clear hb7))
        go_ret
        exact ⟨rfl, HB7.out⟩
end Go.Proofs.YtokebpeplopjhaaDoor.Mp
