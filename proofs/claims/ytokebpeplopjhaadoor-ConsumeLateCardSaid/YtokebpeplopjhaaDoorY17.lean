/- Producers: Tick. Consumers: the closure of Tick. Producers: Tick. -/
import Derived.Test.YtokebpeplopjhaaDoorY16
import Derived.Test.YtokebpeplopjhaaDoorY13
import Derived.Test.YtokebpeplopjhaaDoorY14
import Derived.Deep.RegionHeld3
import Derived.Deep.DeepCutAuto
import Derived.Test.YtokebpeplopjhaaDoorY15
namespace Go.Proofs.YtokebpeplopjhaaDoor.Mp
open Go.RowKit Go.Shelf Go.Proofs.YtokebpeplopjhaaDoor.Rng Go.Proofs.YtokebpeplopjhaaDoorW.PrintWords Go.Proofs.YtokebpeplopjhaaDoorW.PrintMore Go.Proofs.YtokebpeplopjhaaDoorW.PrintLast

theorem info_fr : (Tryd.prog.info? 104).map (fun i => (i.zero, i.size, i.bytes)) = some (some (.agg #[.int .u16 0, .int .i64 0, .int .u8 0, .int .u8 0, .int .u8 0, .int .u8 0, .int .u8 0, .int .u8 0, .int .u8 0, .int .u8 0, .bool false]), 11, 32) := by kernel_rfl
/-- What is sent: a frame; and the object behind it. -/
def frZ (id : Int) (zs : List Int) : Frm.Fm := if id ≤ 2047 ∧ zs.length ≤ 8 then Frm.mkF id zs else Frm.fm0
def frC (o : Option DD) (x : Ob) : Frm.Fm := frZ x.cm.id (bC o x.maps)
theorem fr11 (id : Int) (zs : List Int) : ∃ i n x0 x1 x2 x3 x4 x5 x6 x7 r, (frZ id zs).cells = #[.int .u16 i, .int .i64 n, .int .u8 x0, .int .u8 x1, .int .u8 x2, .int .u8 x3, .int .u8 x4, .int .u8 x5, .int .u8 x6, .int .u8 x7, .bool r] := by
  have h8 : (frZ id zs).d.length = 8 := by
    unfold frZ
    split
    · rename_i h
      simp [Frm.mkF]
      omega
    · rfl
  obtain ⟨x0, x1, x2, x3, x4, x5, x6, x7, hd⟩ := Frm.eight h8
  exact ⟨_, _, x0, x1, x2, x3, x4, x5, x6, x7, _, by unfold Frm.Fm.cells; rw [hd]; rfl⟩
theorem frm_any (id : Int) (A : Option Addr) (c n : Nat) (zs : List Int) (w : World) (hr : Rd w A zs) (hn : zs.length = n) :
    Calls Tryd.prog 127 #[.int .u16 id, .slice A n c] w fun e w' => ∃ no, e = .returned (.tuple #[.agg (frZ id zs).cells, .int .i64 no]) ∧ Below w.heap.size w w' := by
  subst hn
  refine (Frm.fmake_any id A c zs w hr.2).mono ?_
  rintro e w' ⟨⟨h, rfl⟩ | ⟨h, rfl⟩, hb⟩
  · exact ⟨0, by unfold frZ; rw [if_pos (show id ≤ 2047 ∧ zs.length ≤ 8 from h)], hb⟩
  · exact ⟨2, by unfold frZ; rw [if_neg (show ¬ (id ≤ 2047 ∧ zs.length ≤ 8) from h)], hb⟩
def sentC (o : Option DD) (x : Ob) (now : Int) : Ob := { x with sent := true, bts := bC o x.maps, at_ := now, wanted := false }
def eachO (is : Ob → Bool) (o : Option DD) (now : Int) (os : Nat → Ob) (i : Nat) : Nat → Ob := fun k => if k < i ∧ (os k).cm.on = true ∧ is (os k) = true then sentC o (os k) now else os k
def eachF (is : Ob → Bool) (o : Option DD) (os : Nat → Ob) : Nat → List Frm.Fm
  | 0 => []
  | i + 1 => eachF is o os i ++ if (os i).cm.on = true ∧ is (os i) = true then [frC o (os i)] else []
def frL (l : List Frm.Fm) : List (List Value) := l.map fun f => f.cells.toList
theorem eachO_same {is : Ob → Bool} {o : Option DD} {now : Int} {os : Nat → Ob} {i k : Nat} (h : ¬ (k < i ∧ (os k).cm.on = true ∧ is (os k) = true)) : eachO is o now os i k = os k := if_neg h
theorem keep_set {w : World} {a : Addr} {v u : Value} (h : w.cell? a = some u) (hu : ∀ y, u ≠ .int .u8 y) : Keep8 w (w.setCell a v) := fun p y hp => by
  by_cases e : a = p
  · subst e
    rw [h] at hp
    injection hp with hp
    exact absurd hp (hu y)
  · rw [World.cell?_setCell_other _ _ _ _ e]
    exact hp
theorem ArgN.grown {k : Nat} {w w' : World} {v : Value} {l : List Int} {row : Option Nat} (h : ArgN k w v l) (hg : w.grownBy w' row) (ho : ∀ x, v.ownBlock = some x → row ≠ some x) : ArgN k w' v l :=
  h.fr (M := fun x => row = some x) (Fr.of_grownBy hg (fun _ hx => .inl hx)) (fun x hx _ => ho x hx)
theorem keep_sets4 {w : World} {g o : Nat} {a1 a4 b1 b4 : Bool} {a2 b2 : Value} {a3 b3 : Int} (h1 : w.cell? ⟨g, o, none⟩ = some (.bool a1)) (h2 : w.cell? ⟨g, o + 1, none⟩ = some a2) (h2' : ∀ y, a2 ≠ .int .u8 y) (h3 : w.cell? ⟨g, o + 1 + 1, none⟩ = some (.int .i64 a3)) (h4 : w.cell? ⟨g, o + 1 + 1 + 1, none⟩ = some (.bool a4)) : Keep8 w (w.setCells g o [.bool b1, b2, .int .i64 b3, .bool b4]) := by
  have ne : ∀ {w : World} {x y : Nat} {v : Value}, x ≠ y → (w.setCell ⟨g, x, none⟩ v).cell? ⟨g, y, none⟩ = w.cell? ⟨g, y, none⟩ := fun h => World.cell?_setCell_other _ _ _ _ (by intro e; injection e with _ e _; exact h e)
  refine (keep_set h1 (fun y => by simp)).trans ((keep_set (u := a2) ?_ h2').trans ((keep_set (u := .int .i64 a3) ?_ (fun y => by simp)).trans (keep_set (u := .bool a4) ?_ (fun y => by simp))))
  · rw [ne (by omega)]; exact h2
  · rw [ne (by omega), ne (by omega)]; exact h3
  · rw [ne (by omega), ne (by omega), ne (by omega)]; exact h4
set_option maxRecDepth 100000 in
set_option maxHeartbeats 8000000 in
theorem peach_tick (B g gd bi bs Bn Bp : Nat) (d : DD) (os : Nat → Ob) (vm vb : Nat → Value) (n0 now : Int) (w : World) (h : PrAt w g (.pointer (some ⟨gd, 0, none⟩)) os vm vb true n0) (hD : DictB B w gd bi bs d) (hne : gd ≠ g ∧ bi ≠ g ∧ bs ≠ g) (hG : Good d) (ht : TblB B w) (hBg : B ≤ g) (hmw : ∀ i, i < 8 → (∀ m ∈ (os i).maps, m.Wf) ∧ (os i).maps.length ≤ 1000) (hn : w.cell? ⟨Bn, 0, none⟩ = some (.int .i64 now)) (hp : w.cell? ⟨Bp, 0, none⟩ = some (.pointer (some ⟨g, 0, none⟩))) (hbx : Bn ≠ g ∧ Bp ≠ g) (hid : ∀ i, i < 8 → 0 ≤ (os i).cm.id) (htm : timeC now) :
    Calls Tryd.prog 93 #[.pointer (some ⟨g, 0, none⟩), .int .i64 now, .func (Fn.func 94) #[] #[.pointer (some ⟨Bn, 0, none⟩), .pointer (some ⟨Bp, 0, none⟩)]] w fun e w' => ∃ A c, e = .returned (.slice A (eachF (fun x => tickC (some d) x now) (some d) os 8).length c) ∧ kI.C w' A (eachF (fun x => tickC (some d) x now) (some d) os 8).length (frL (eachF (fun x => tickC (some d) x now) (some d) os 8)) ∧ (∃ vb', PrAt w' g (.pointer (some ⟨gd, 0, none⟩)) (eachO (fun x => tickC (some d) x now) (some d) now os 8) vm vb' true now) ∧ Fr (fun k => k = g) w w' ∧ Keep8 w w' := by
  have HP := Aside0.mk h
  have HDB := Aside0.mk hD
  have HTB := Aside0.mk ht
  have HMW := Aside0.mk hmw
  have HG := Aside0.mk hG
  have HN := Aside0.mk (And.intro hn hp)
  have HT := Aside0.mk (decide_eq_true htm)
  have HID := Aside0.mk hid
  have hgl := h.lt
  have c5 := h.gs
  have c6 := h.nw
  have f6 := h.fz 106
  obtain ⟨is, his⟩ : ∃ is, (fun x => tickC (some d) x now) = is := ⟨_, rfl⟩
  have HIS := Aside0.mk his
  rw [his]
  clear h hD ht hmw hG hn hp htm his hid
  go_enter Tryd.func93, Tryd.ntmps93
  go_wp2_with (go_at_call 92; refine (ptime_any _ _).mono ?_; rw [HT.out]; rintro e w' ⟨rfl, hw⟩; have hw := hw.symm; subst hw)
  have HF0 := Aside0.mk (show Fr (fun k => k = g) w (w.setCell ⟨g, 106, none⟩ (.int .i64 now)) from Fr.setCell (M := fun k => k = g) w ⟨g, 106, none⟩ _ (.inl rfl))
  have HK0 := Aside0.mk (show Keep8 w (w.setCell ⟨g, 106, none⟩ (.int .i64 now)) from keep_set c6 (fun y => by simp))
  have HP2 := Aside0.mk (HP.out.setNow now)
  generalize w.setCell ⟨g, 106, none⟩ (.int .i64 now) = w2 at HF0 HK0 HP2 ⊢
  clear c5 c6 f6
  go_loopw [7, 32] (fun ov iv wr => ∃ (i : Nat), i ≤ 8 ∧ iv = .int .i64 i ∧ Aside0 (∃ vb', PrAt wr g (.pointer (some ⟨gd, 0, none⟩)) (eachO is (some d) now os i) vm vb' true now ∧ OffO wr ov (eachO is (some d) now os i) vm vb') ∧ Aside0 (Kd.R kI 104 wr w.heap.size (fun _ => True) ov (frL (eachF is (some d) os i)) ∧ (eachF is (some d) os i).length ≤ i) ∧ Aside0 (Fr (fun k => k = g) w wr ∧ Keep8 w wr)) (fun _ iv _ => 8 - (intOf iv).toNat)
  case atStart => exact ⟨0, by omega, rfl, ⟨vb, by rw [show eachO is (some d) now os 0 = os from funext fun k => eachO_same (fun h => by omega)]; exact ⟨HP2.out, fun k hk => by simp [Value.ownBlock] at hk⟩⟩, ⟨Kd.R_nil _ _ _ _ _, Nat.le_refl _⟩, ⟨HF0.out, HK0.out⟩⟩
  case round =>
    obtain ⟨i, hi, rfl, HPR, HRO, HFK⟩ := hrel
    obtain ⟨vb', hpr, hoff⟩ := HPR.out
    have HPI := Aside0.mk hpr
    have HOFF := Aside0.mk hoff
    clear hpr hoff
    by_cases hlt : i < 8
    · have hi1 : (i : Int) < 8 := by omega
      have hoi : eachO is (some d) now os i i = os i := eachO_same (fun h => by omega)
      have hDi := HDB.out.kp HFK.out.1 HFK.out.2 hne.1 hne.2.1 hne.2.2
      have HDI := Aside0.mk hDi
      have HBW := Aside0.mk (show Below B w wr from HFK.out.1.below (fun jj hjj => ⟨by omega, fun e => by have : jj = g := e; omega⟩))
      have HTI := Aside0.mk (HTB.out.below HBW.out).tbl
      have HNI := Aside0.mk (And.intro (HFK.out.1.cell HN.out.1 hbx.1) (HFK.out.1.cell HN.out.2 hbx.2))
      have hob := HPI.out.ob i hlt
      rw [hoi] at hob
      have y0 := hob 0 _ rfl
      rw [Nat.add_zero] at y0
      have HOB := Aside0.mk hob
      have HOI := Aside0.mk hoi
      clear hDi hob hoi
      cases hon : (os i).cm.on with
      | false =>
        have hnx : eachF is (some d) os (i + 1) = eachF is (some d) os i := by simp [eachF, hon]
        have hox : eachO is (some d) now os (i + 1) = eachO is (some d) now os i := funext fun k => by
          by_cases e : k = i
          · subst e
            rw [eachO_same (fun h => by rw [hon] at h; simp at h), eachO_same (fun h => by omega)]
          · unfold eachO
            by_cases hk : k < i
            · simp [hk, Nat.lt_succ_of_lt hk]
            · simp [hk, show ¬ k < i + 1 by omega]
        have HNX := Aside0.mk (And.intro hnx hox)
        rw [hon] at y0
        clear hnx hox hon
        go_wp2
        go_roundw
        case rel => exact ⟨i + 1, by omega, by go_num, ⟨vb', by rw [HNX.out.2]; exact ⟨HPI.out, HOFF.out⟩⟩, ⟨by rw [HNX.out.1]; exact HRO.out.1, by rw [HNX.out.1]; have := HRO.out.2; omega⟩, HFK⟩
        case measure => simp [intOf]; omega
      | true =>
        obtain ⟨q, hq⟩ : ∃ q, is (os i) = q := ⟨_, rfl⟩
        have htk := ptick_any B g Bn Bp (.pointer (some ⟨gd, 0, none⟩)) (some d) (eachO is (some d) now os i) vm vb' true now now i wr HPI.out hlt ⟨gd, rfl, HDI.out.dict⟩ HTI.out (fun d' e => by injection e with e; exact e ▸ HG.out) (by rw [HOI.out]; exact (HMW.out i hlt).1) (by rw [HOI.out]; exact (HMW.out i hlt).2) HNI.out.1 HNI.out.2
        rw [HOI.out, show tickC (some d) (os i) now = is (os i) from congrFun HIS.out (os i), hq] at htk
        have HTK := Aside0.mk htk
        rw [hon] at y0
        clear htk
        cases q with
        | false =>
          have hnx : eachF is (some d) os (i + 1) = eachF is (some d) os i := by simp [eachF, hq]
          have hox : eachO is (some d) now os (i + 1) = eachO is (some d) now os i := funext fun k => by
            by_cases e : k = i
            · subst e
              rw [eachO_same (fun h => by rw [hq] at h; simp at h), eachO_same (fun h => by omega)]
            · unfold eachO
              by_cases hk : k < i
              · simp [hk, Nat.lt_succ_of_lt hk]
              · simp [hk, show ¬ k < i + 1 by omega]
          have HNX := Aside0.mk (And.intro hnx hox)
          clear hnx hox hon hq
          go_wp2_with (go_at_call 94; go_loud (refine HTK.out.mono ?_; rintro e w3 ⟨rfl, hb3⟩; have HB3 := Aside0.mk hb3; clear hb3))
          go_roundw
          case rel => exact ⟨i + 1, by omega, by go_num, ⟨vb', by rw [HNX.out.2]; exact ⟨HPI.out.below HB3.out, HOFF.out.below HB3.out⟩⟩, ⟨by rw [HNX.out.1]; exact Kd.R_below HRO.out.1 HB3.out, by rw [HNX.out.1]; have := HRO.out.2; omega⟩, ⟨HFK.out.1.trans (Fr.of_below HB3.out), HFK.out.2.trans (Keep8.below HB3.out)⟩⟩
          case measure => simp [intOf]; omega
        | true =>
          have HQ := Aside0.mk (And.intro hon hq)
          clear hon hq
          go_wp2_with (go_at_call 94; (refine HTK.out.mono ?_; rintro e w3 ⟨rfl, hb3⟩; have HB3 := Aside0.mk hb3; clear hb3))
          obtain ⟨Am, cm, hvm, hms, -⟩ := HPI.out.ms i hlt
          rw [HOI.out] at hms
          have hob := HOB.out
          have y1 := pw_cell_below HB3.out (hob 1 _ rfl)
          have y6 := pw_cell_below HB3.out (hob 6 _ rfl)
          rw [hvm, show ((eachO is (some d) now os i i).maps).length = (os i).maps.length by rw [HOI.out]] at y6
          have d0 := pw_cell_below HB3.out HPI.out.d0
          have HPK := Aside0.mk fun (X : World) (hX : Below w3.heap.size w3 X) => pk_any B (.pointer (some ⟨gd, 0, none⟩)) (some d) (os i).maps Am cm X ⟨gd, rfl, (HDI.out.below (HB3.out.trans (hX.mono HB3.out.size))).dict⟩ (HTI.out.below (HB3.out.trans (hX.mono HB3.out.size))) (hms.below (HB3.out.trans (hX.mono HB3.out.size))) (by have := (HMW.out i hlt).2; omega) (HMW.out i hlt).1 (fun d' e => by injection e with e; exact e ▸ HG.out)
          obtain ⟨nm, hnm⟩ : ∃ nm, (os i).maps.length = nm := ⟨_, rfl⟩
          obtain ⟨bc, hbc⟩ : ∃ bc, bC (some d) (os i).maps = bc := ⟨_, rfl⟩
          obtain ⟨nk, hnk⟩ : ∃ nk, bc.length = nk := ⟨_, rfl⟩
          obtain ⟨id, hidd⟩ : ∃ id, (os i).cm.id = id := ⟨_, rfl⟩
          have HVM := Aside0.mk hvm
          have HBC := Aside0.mk (And.intro hbc (And.intro hnk hidd))
          rw [hnm, hbc, hnk] at HPK
          rw [hnm] at y6
          rw [hidd] at y1
          generalize checkC (some d) (os i).maps true = code at HPK
          obtain ⟨i', n', x0, x1, x2, x3, x4, x5, x6, x7, rr, hfr⟩ := fr11 id bc
          have HFR := Aside0.mk hfr
          have u0 : ∀ X, Below w3.heap.size w3 X → _ := fun X hX => pw_cell_below hX d0
          have u6 : ∀ X, Below w3.heap.size w3 X → _ := fun X hX => pw_cell_below hX y6
          have hS0 : Below w3.heap.size w3 w3.drew := below_drew (Below.refl _ _)
          have Y1 := Aside0.mk y1
          clear hob hms hvm hbc hnk hidd hfr hnm y1 y6 d0
          go_region_held3 (fun X => Below w3.heap.size w3 X) (first | assumption | exact hS0 | exact below_step (by assumption) (by assumption) | exact below_drew (by assumption))
            ((go_at_call 22; go_loud (refine (HPK.out _ (by assumption)).mono ?_; rintro e w4 ⟨A4, c4, rfl, ha4, ho4, hb4⟩; have hs4 := below_step (by assumption) hb4; have HS4 := Aside0.mk hs4; have HA4 := Aside0.mk ha4; have HO4 := Aside0.mk (fun (k : Nat) (hk : (Value.slice A4 nk c4).ownBlock = some k) => Nat.le_trans (show Below w3.heap.size w3 _ by assumption).size (ho4 k hk)); clear ha4 ho4 hb4)))
          have y1 := pw_cell_below HS4.out Y1.out
          clear u0 u6 hS0 hs4
          have hrd4 : Rd w4 A4 bc := by
            obtain ⟨A', c', e, q1, -⟩ := HA4.out
            injection e with e
            subst e
            exact q1.rd
          have HRD4 := Aside0.mk hrd4
          have HRO4 := Aside0.mk (Kd.R_below (Kd.R_below HRO.out.1 HB3.out) HS4.out)
          have HBW4 := Aside0.mk (show Below wr.heap.size wr w4 from HB3.out.trans (HS4.out.mono HB3.out.size))
          clear hrd4
          go_upto_region 12 with (go_at_call 127; go_loud (refine (frm_any id A4 c4 nk bc w4 HRD4.out HBC.out.2.1).mono ?_; rintro e w5 ⟨no, rfl, hb5⟩; rw [HFR.out]; have HB5 := Aside0.mk hb5; clear hb5))
          have hrow6 := blk_new w5 (.cells #[.int .u16 i', .int .i64 n', .int .u8 x0, .int .u8 x1, .int .u8 x2, .int .u8 x3, .int .u8 x4, .int .u8 x5, .int .u8 x6, .int .u8 x7, .bool rr] 104)
          have hb56 : Below w5.heap.size w5 (w5.alloc (.cells #[.int .u16 i', .int .i64 n', .int .u8 x0, .int .u8 x1, .int .u8 x2, .int .u8 x3, .int .u8 x4, .int .u8 x5, .int .u8 x6, .int .u8 x7, .bool rr] 104)) := below_alloc (Below.refl _ _) _
          generalize w5.alloc (.cells #[.int .u16 i', .int .i64 n', .int .u8 x0, .int .u8 x1, .int .u8 x2, .int .u8 x3, .int .u8 x4, .int .u8 x5, .int .u8 x6, .int .u8 x7, .bool rr] 104) = w6 at hrow6 hb56 ⊢
          have c0 := Go.Proofs.YtokebpeplopjhaaDoorW.PrintWords.blk_cell hrow6 0
          have c1 := Go.Proofs.YtokebpeplopjhaaDoorW.PrintWords.blk_cell hrow6 1
          have c2 := Go.Proofs.YtokebpeplopjhaaDoorW.PrintWords.blk_cell hrow6 2
          have c3 := Go.Proofs.YtokebpeplopjhaaDoorW.PrintWords.blk_cell hrow6 3
          have c4' := Go.Proofs.YtokebpeplopjhaaDoorW.PrintWords.blk_cell hrow6 4
          have c5 := Go.Proofs.YtokebpeplopjhaaDoorW.PrintWords.blk_cell hrow6 5
          have c6 := Go.Proofs.YtokebpeplopjhaaDoorW.PrintWords.blk_cell hrow6 6
          have c7 := Go.Proofs.YtokebpeplopjhaaDoorW.PrintWords.blk_cell hrow6 7
          have c8 := Go.Proofs.YtokebpeplopjhaaDoorW.PrintWords.blk_cell hrow6 8
          have c9 := Go.Proofs.YtokebpeplopjhaaDoorW.PrintWords.blk_cell hrow6 9
          have c10 := Go.Proofs.YtokebpeplopjhaaDoorW.PrintWords.blk_cell hrow6 10
          have HB46 := Aside0.mk (HB5.out.trans (hb56.mono HB5.out.size))
          have HB6 := Aside0.mk (HBW4.out.trans (HB46.out.mono HBW4.out.size))
          have HPI6 := Aside0.mk (HPI.out.below HB6.out)
          have HOF6 := Aside0.mk (HOFF.out.below HB6.out)
          have HRO6 := Aside0.mk (Kd.R_below HRO.out.1 HB6.out)
          have HLN := Aside0.mk (show ((frL (eachF is (some d) os i)).length + 1) * 32 ≤ 140737488355328 by have := HRO.out.2; simp only [frL, List.length_map]; omega)
          have HSZ6 := Aside0.mk (Nat.le_trans HFK.out.1.size HB6.out.size)
          clear hrow6 hb56 y1
          go_wp2_with ((with_reducible refine gate_builtin (b := .append) (xs := #[.tmp 74, .tmp 76]) rfl ?_); at_builtin; go_loud (refine Kd.R_append kI (w0 := w6) w.heap.size rfl (.tmp 74) (.tmp 76) 89 104 (.agg #[.int .u16 0, .int .i64 0, .int .u8 0, .int .u8 0, .int .u8 0, .int .u8 0, .int .u8 0, .int .u8 0, .int .u8 0, .int .u8 0, .bool false]) 32 rfl Tryd.underlying89 info_fr rfl (by decide) (by decide) _ (frL (eachF is (some d) os i)) [.int .u16 i', .int .i64 n', .int .u8 x0, .int .u8 x1, .int .u8 x2, .int .u8 x3, .int .u8 x4, .int .u8 x5, .int .u8 x6, .int .u8 x7, .bool rr] [.int .u16 i', .int .i64 n', .int .u8 x0, .int .u8 x1, .int .u8 x2, .int .u8 x3, .int .u8 x4, .int .u8 x5, .int .u8 x6, .int .u8 x7, .bool rr] (fun _ => True) (fun _ => False) rfl rfl ⟨rfl, rfl, by intro u hu; simp at hu; rcases hu with rfl | rfl | rfl | rfl | rfl | rfl | rfl | rfl | rfl | rfl | rfl <;> rfl⟩ (fun _ hk => hk.elim) (fun _ _ => trivial) HRO6.out (Below.refl _ _) HSZ6.out HLN.out ?_; intro v7 w7 hown hb hg hat; have HR7 := Aside0.mk hown; have HB7 := Aside0.mk hb; have HG7 := Aside0.mk hg; have HT7 := Aside0.mk hat; have HPR7 := Aside0.mk (HPI6.out.grown HOF6.out (fun e => by have := ((Kd.R_bound HRO6.out).1 g e).2.1; omega) hg); have HOF7 := Aside0.mk (HOF6.out.grown HPI6.out hg hat); have z7 := HPR7.out.ob i hlt 7 _ rfl; have z8 := HPR7.out.ob i hlt 8 _ rfl; have z9 := HPR7.out.ob i hlt 9 _ rfl; have z10 := HPR7.out.ob i hlt 10 _ rfl; have f7 := HPR7.out.fz (1 + i * 13 + 7); have f8 := HPR7.out.fz (1 + i * 13 + 8); have f9 := HPR7.out.fz (1 + i * 13 + 9); have f10 := HPR7.out.fz (1 + i * 13 + 10); clear hown hb hg hat))
          go_roundw
          case rel =>
            have hgw : g < wr.heap.size := Nat.lt_of_lt_of_le hgl HFK.out.1.size
            have hs3 := HB3.out.size
            have u7lt := Kd.R_lt HRO.out.1
            have ho : ∀ x, (Value.slice A4 nk c4).ownBlock = some x → w3.heap.size ≤ x := HO4.out
            have a6 : ∀ k, k < w3.heap.size → ArgN k w6 (.slice A4 nk c4) bc := fun k hk => (argn_at HA4.out (fun k' hk' _ e => by have := ho k' hk'; omega)).below HB46.out
            have a7 : ∀ k, ArgN k w6 (.slice A4 nk c4) bc → ArgN k w7 (.slice A4 nk c4) bc := fun k h => h.grown HG7.out (fun x hx e => by have h1 := ho x hx; have h2 := u7lt x e; omega)
            have fs : Fr (fun x => x = g) w7 (w7.setCells g (1 + i * 13 + 7) [.bool true, .slice A4 nk c4, .int .i64 now, .bool false]) := fr_cells _ _ _
            have hEO : eachO is (some d) now os (i + 1) = upd (eachO is (some d) now os i) i { eachO is (some d) now os i i with sent := true, bts := bc, at_ := now, wanted := false } := funext fun k => by
              by_cases e : k = i
              · subst e
                rw [upd_same, HOI.out]
                unfold eachO
                rw [if_pos ⟨Nat.lt_succ_self _, HQ.out.1, HQ.out.2⟩, ← HBC.out.1]
                rfl
              · rw [upd_ne _ _ e]
                unfold eachO
                by_cases hk : k < i
                · simp [hk, Nat.lt_succ_of_lt hk]
                · simp [hk, show ¬ k < i + 1 by omega]
            have hFL : frL (eachF is (some d) os (i + 1)) = frL (eachF is (some d) os i) ++ [([.int .u16 i', .int .i64 n', .int .u8 x0, .int .u8 x1, .int .u8 x2, .int .u8 x3, .int .u8 x4, .int .u8 x5, .int .u8 x6, .int .u8 x7, .bool rr] : List Value)] := by
              have h1 : eachF is (some d) os (i + 1) = eachF is (some d) os i ++ [frC (some d) (os i)] := by
                show eachF is (some d) os i ++ (if _ then _ else _) = _
                rw [if_pos ⟨HQ.out.1, HQ.out.2⟩]
              have h2 : (frC (some d) (os i)).cells = #[.int .u16 i', .int .i64 n', .int .u8 x0, .int .u8 x1, .int .u8 x2, .int .u8 x3, .int .u8 x4, .int .u8 x5, .int .u8 x6, .int .u8 x7, .bool rr] := by
                unfold frC
                rw [HBC.out.1, HBC.out.2.2]
                exact HFR.out
              rw [h1]
              simp only [frL, List.map_append, List.map_cons, List.map_nil]
              rw [h2]
            have hp8 := HPR7.out.sent hlt now (.slice A4 nk c4) bc (a7 g (a6 g (by omega)))
            have hcell : ∀ p y, w.cell? p = some (.int .u8 y) → w7.cell? p = some (.int .u8 y) := fun p y hp => by
              have h1 := (HFK.out.2.trans (Keep8.below HB6.out)) p y hp
              exact (HB7.out.cell (World.block_lt_of_cell? _ _ hp)).trans h1
            refine ⟨i + 1, by omega, by go_num, ⟨upd vb' i (.slice A4 nk c4), by rw [hEO]; exact hp8, ?_⟩, ⟨by rw [hFL]; exact R_fr HR7.out fs (fun k hk e => by have : k = g := e; omega), ?_⟩, ⟨?_, ?_⟩⟩
            · rw [hEO]
              intro k hk j hj
              by_cases e : j = i
              · subst e
                rw [upd_same, upd_same]
                have b7 : ArgN k w7 (.slice A4 nk c4) bc := by
                  rcases HT7.out with e2 | ⟨b, e2, hb⟩
                  · exact a7 k (a6 k (by have := u7lt k (e2 ▸ hk); omega))
                  · rw [hk] at e2
                    injection e2 with e2
                    exact a7 k ((a6 g (by omega)).argv.toN (by omega))
                exact ⟨b7.two (a7 g (a6 g (by omega))) fs, MsN.two (HOF7.out k hk j hj).2 (HPR7.out.ms j hj) fs⟩
              · rw [upd_ne _ _ e, upd_ne _ _ e]
                exact ⟨(HOF7.out k hk j hj).1.two (HPR7.out.bs j hj) fs, MsN.two (HOF7.out k hk j hj).2 (HPR7.out.ms j hj) fs⟩
            · have := HRO.out.2
              show (eachF is (some d) os i ++ (if _ then _ else _)).length ≤ i + 1
              rw [if_pos ⟨HQ.out.1, HQ.out.2⟩, List.length_append]
              simp
              omega
            · have f1 : Fr (fun x => x = g) w w6 := HFK.out.1.trans (Fr.of_below HB6.out)
              have f2 : Fr (fun x => w.heap.size ≤ x) w6 w7 := ⟨HB7.out.os, HB7.out.tape, HB7.out.output, HB7.out.size, fun k _ hk => HB7.out.block k (by omega)⟩
              exact (f1.then_ f2 (fun k hk hM => absurd hM (by omega))).trans fs
            · exact (show Keep8 w w7 from hcell).trans (keep_sets4 z7 z8 (by obtain ⟨A', c', e, -⟩ := HPR7.out.bs i hlt; intro y; rw [e]; simp) z9 z10)
          case measure => simp [intOf]; omega
    · obtain rfl : i = 8 := by omega
      have hi1 : ¬ (8 : Int) < 8 := by omega
      obtain ⟨A, c, hv, hl, hC⟩ := Kd.R_reads HRO.out.1
      have hll : (frL (eachF is (some d) os 8)).length = (eachF is (some d) os 8).length := by simp [frL]
      rw [hll] at hv hC
      subst hv
      have HC := Aside0.mk hC
      clear hC hl hll
      go_wp2
      go_ret
      exact ⟨A, ⟨c, rfl⟩, HC.out, ⟨vb', HPI.out⟩, HFK.out.1, HFK.out.2⟩
end Go.Proofs.YtokebpeplopjhaaDoor.Mp
namespace Go.Proofs.YtokebpeplopjhaaDoor.Mp
open Go.RowKit Go.Shelf Go.Proofs.YtokebpeplopjhaaDoor.Rng Go.Proofs.YtokebpeplopjhaaDoorW.PrintWords Go.Proofs.YtokebpeplopjhaaDoorW.PrintMore Go.Proofs.YtokebpeplopjhaaDoorW.PrintLast

/-- Is an object late? -/
def lateC (x : Co) (now : Int) : Bool := x.watched && decide (x.cm.ev ≤ wrap64 (now - x.at_))
def lateO (x : Co) (now : Int) : Co := { x with late := x.late || lateC x now }
theorem CnAt.late {w : World} {g : Nat} {vd : Value} {os : Nat → Co} {vm : Nat → Value} {goes : Bool} (h : CnAt w g vd os vm goes) {i : Nat} (hi : i < 8) (b : Bool) :
    CnAt (w.setCell ⟨g, 1 + i * 20 + 9, none⟩ (.bool b)) g vd (upd os i { os i with late := b }) vm goes := by
  have h1 := h.store hi (t := 9) [.bool b] (by show 9 + 1 ≤ 20; omega) { os i with late := b } (vm i) (fun j u hu => ?_) (h.ms i hi)
  · rw [upd_id] at h1
    exact h1
  · by_cases e : j = 9
    · subst e
      exact .inl ⟨by omega, by simp, hu⟩
    · refine .inr ⟨by simp; omega, ?_⟩
      have hj : j < 20 := (List.getElem?_eq_some_iff.1 hu).1
      match j, hj, e, hu with
      | 0, _, _, hu => exact hu
      | 1, _, _, hu => exact hu
      | 2, _, _, hu => exact hu
      | 3, _, _, hu => exact hu
      | 4, _, _, hu => exact hu
      | 5, _, _, hu => exact hu
      | 6, _, _, hu => exact hu
      | 7, _, _, hu => exact hu
      | 8, _, _, hu => exact hu
      | 9, _, e, hu => exact absurd rfl e
      | 10, _, _, hu => exact hu
      | 11, _, _, hu => exact hu
      | 12, _, _, hu => exact hu
      | 13, _, _, hu => exact hu
      | 14, _, _, hu => exact hu
      | 15, _, _, hu => exact hu
      | 16, _, _, hu => exact hu
      | 17, _, _, hu => exact hu
      | 18, _, _, hu => exact hu
      | 19, _, _, hu => exact hu
set_option maxRecDepth 100000 in
set_option maxHeartbeats 2000000 in
theorem ctick_any (g Bn : Nat) (vd : Value) (os : Nat → Co) (vm : Nat → Value) (goes : Bool) (now : Int) (i : Nat) (w : World) (h : CnAt w g vd os vm goes) (hi : i < 8) (hn : w.cell? ⟨Bn, 0, none⟩ = some (.int .i64 now)) :
    Calls Tryd.prog 101 #[.pointer (some ⟨g, 1 + i * 20, none⟩), .pointer (some ⟨Bn, 0, none⟩)] w fun e w' => e = .returned (.tuple #[.int .u32 0, .bool (lateC (os i) now)]) ∧ CnAt w' g vd (upd os i (lateO (os i) now)) vm goes ∧ Fr (fun k => k = g) w w' ∧ Keep8 w w' := by
  have HP := Aside0.mk h
  have hob := h.ob i hi
  have y4 := hob 4 _ rfl
  have y8 := hob 8 _ rfl
  have y9 := hob 9 _ rfl
  have f9 := h.fz (1 + i * 20 + 9)
  have HW := Aside0.mk (fun X (hX : Below w.heap.size w X) => cwatched_any (os i) (vm i) g (1 + i * 20) X (fun j u hu => pw_cell_below hX (hob j u hu)))
  obtain ⟨r, hr⟩ : ∃ r, lateC (os i) now = r := ⟨_, rfl⟩
  obtain ⟨wt, hwt⟩ : ∃ wt, (os i).watched = wt := ⟨_, rfl⟩
  obtain ⟨x, hx⟩ : ∃ x, os i = x := ⟨_, rfl⟩
  have HR := Aside0.mk hr
  have HX := Aside0.mk hx
  rw [hr]
  rw [hwt] at HW
  rw [hx] at y4 y8 y9 hr hwt
  unfold lateC at hr
  rw [hwt] at hr
  obtain ⟨⟨on, id, kind, inh, ev, st⟩, maps, heard, at_, late, holds, by_, n⟩ := x
  simp only at y4 y8 y9 hr
  obtain ⟨t, htt⟩ : ∃ t, wrap64 (now - at_) = t := ⟨_, rfl⟩
  have htt2 : IntKind.i64.wrap (now - at_) = t := by rw [i64_w]; exact htt
  rw [htt] at hr
  have hS0 : Below w.heap.size w w.drew := below_drew (Below.refl _ _)
  have u0 : ∀ X, Below w.heap.size w X → _ := fun X hX => pw_cell_below hX hn
  have u4 : ∀ X, Below w.heap.size w X → _ := fun X hX => pw_cell_below hX y4
  have u8 : ∀ X, Below w.heap.size w X → _ := fun X hX => pw_cell_below hX y8
  have Y9 := Aside0.mk y9
  have F9 := Aside0.mk f9
  have fin : ∀ X, Below w.heap.size w X → ∀ b, late = b ∨ r = b → (late || r) = b → CnAt (X.setCell ⟨g, 1 + i * 20 + 9, none⟩ (.bool b)) g vd (upd os i (lateO (os i) now)) vm goes ∧ Fr (fun k => k = g) w (X.setCell ⟨g, 1 + i * 20 + 9, none⟩ (.bool b)) ∧ Keep8 w (X.setCell ⟨g, 1 + i * 20 + 9, none⟩ (.bool b)) := fun X hX b _ hb => by
    refine ⟨?_, (Fr.of_below hX).trans (Fr.setCell (M := fun k => k = g) _ _ _ (.inl rfl)), (Keep8.below hX).trans (keep_set (pw_cell_below hX Y9.out) (fun y => by simp))⟩
    have h1 := (HP.out.below hX).late hi b
    have h2 : lateO (os i) now = { os i with late := b } := by
      unfold lateO
      rw [HR.out, HX.out, hb]
    rw [h2]
    exact h1
  have FIN := Aside0.mk fin
  clear h hob hwt hx y4 y8 y9 f9 hn fin
  go_enter Tryd.func101, Tryd.ntmps101
  cases wt with
  | false =>
    obtain rfl : r = false := by rw [← hr]; rfl
    clear hr
    go_wp2
    refine wp_region_held_drew (S := fun X => Below w.heap.size w X) (by kernel_rfl) hS0 (fun hHeld => ?_)
    refine wpAnyH_take (i := 0) (oi := { dst := some 6, op := Op.move (Operand.tmp 0), type := _, pos := _, after := _, guard := none }) (v := ?_) rfl (by kernel_rfl) (by kernel_rfl) (by kernel_rfl) (fun _ _ _ h => h) (Or.inl ⟨rfl, ?_⟩) hHeld ?_
    rotate_left
    · intro w hSw
      try dsimp only at hSw
      go_simp
      try exact rfl
    try simp only [Act.put, List.setIfInBounds_toArray, List.set_cons_zero, List.set_cons_succ]
    refine wpAnyH_ready (rs := [1]) (by kernel_rfl) (by simp) ?_
    refine AllReadyH.cons (o := _) rfl (fun K hK => ?_) AllReadyH.nil
    go_simp
    with_reducible refine (HW.out _ hHeld).mono ?_
    rintro e w4 ⟨rfl, rfl⟩
    refine hK.out _ _ hHeld (fun hHeld2 => ?_)
    clear hK K
    try simp only [Act.put, List.setIfInBounds_toArray, List.set_cons_zero, List.set_cons_succ]
    refine wpAnyH_take (i := 2) (oi := { dst := some 8, op := Op.move (Operand.tmp 7), type := _, pos := _, after := _, guard := none }) (v := ?_) rfl (by kernel_rfl) (by kernel_rfl) (by kernel_rfl) (fun _ _ _ h => h) (Or.inl ⟨rfl, ?_⟩) hHeld2 ?_
    rotate_left
    · intro w hSw
      try dsimp only at hSw
      go_simp
      try exact rfl
    try simp only [Act.put, List.setIfInBounds_toArray, List.set_cons_zero, List.set_cons_succ]
    refine wpAnyH_take (i := 3) (oi := { dst := some 9, op := _, type := _, pos := _, after := _, guard := some (2, true) }) (v := undef) rfl (by kernel_rfl) (by kernel_rfl) (by kernel_rfl) (fun _ _ _ h => h) (Or.inr ⟨rfl, rfl⟩) hHeld2 ?_
    try simp only [Act.put, List.setIfInBounds_toArray, List.set_cons_zero, List.set_cons_succ]
    refine wpAnyH_take (i := 4) (oi := { dst := some 10, op := _, type := _, pos := _, after := _, guard := some (2, true) }) (v := undef) rfl (by kernel_rfl) (by kernel_rfl) (by kernel_rfl) (fun _ _ _ h => h) (Or.inr ⟨rfl, rfl⟩) hHeld2 ?_
    try simp only [Act.put, List.setIfInBounds_toArray, List.set_cons_zero, List.set_cons_succ]
    refine wpAnyH_take (i := 5) (oi := { dst := some 11, op := _, type := _, pos := _, after := _, guard := some (2, true) }) (v := undef) rfl (by kernel_rfl) (by kernel_rfl) (by kernel_rfl) (fun _ _ _ h => h) (Or.inr ⟨rfl, rfl⟩) hHeld2 ?_
    try simp only [Act.put, List.setIfInBounds_toArray, List.set_cons_zero, List.set_cons_succ]
    refine wpAnyH_take (i := 6) (oi := { dst := some 12, op := _, type := _, pos := _, after := _, guard := some (2, true) }) (v := undef) rfl (by kernel_rfl) (by kernel_rfl) (by kernel_rfl) (fun _ _ _ h => h) (Or.inr ⟨rfl, rfl⟩) hHeld2 ?_
    try simp only [Act.put, List.setIfInBounds_toArray, List.set_cons_zero, List.set_cons_succ]
    refine wpAnyH_take (i := 7) (oi := { dst := some 13, op := _, type := _, pos := _, after := _, guard := some (2, true) }) (v := undef) rfl (by kernel_rfl) (by kernel_rfl) (by kernel_rfl) (fun _ _ _ h => h) (Or.inr ⟨rfl, rfl⟩) hHeld2 ?_
    try simp only [Act.put, List.setIfInBounds_toArray, List.set_cons_zero, List.set_cons_succ]
    refine wpAnyH_take (i := 8) (oi := { dst := some 14, op := _, type := _, pos := _, after := _, guard := some (2, true) }) (v := undef) rfl (by kernel_rfl) (by kernel_rfl) (by kernel_rfl) (fun _ _ _ h => h) (Or.inr ⟨rfl, rfl⟩) hHeld2 ?_
    try simp only [Act.put, List.setIfInBounds_toArray, List.set_cons_zero, List.set_cons_succ]
    refine wpAnyH_take (i := 9) (oi := { dst := some 15, op := _, type := _, pos := _, after := _, guard := some (2, true) }) (v := undef) rfl (by kernel_rfl) (by kernel_rfl) (by kernel_rfl) (fun _ _ _ h => h) (Or.inr ⟨rfl, rfl⟩) hHeld2 ?_
    try simp only [Act.put, List.setIfInBounds_toArray, List.set_cons_zero, List.set_cons_succ]
    refine wpAnyH_take (i := 10) (oi := { dst := some 16, op := _, type := _, pos := _, after := _, guard := some (2, true) }) (v := undef) rfl (by kernel_rfl) (by kernel_rfl) (by kernel_rfl) (fun _ _ _ h => h) (Or.inr ⟨rfl, rfl⟩) hHeld2 ?_
    try simp only [Act.put, List.setIfInBounds_toArray, List.set_cons_zero, List.set_cons_succ]
    refine wpAnyH_take (i := 11) (oi := { dst := some 17, op := _, type := _, pos := _, after := _, guard := some (2, true) }) (v := undef) rfl (by kernel_rfl) (by kernel_rfl) (by kernel_rfl) (fun _ _ _ h => h) (Or.inr ⟨rfl, rfl⟩) hHeld2 ?_
    try simp only [Act.put, List.setIfInBounds_toArray, List.set_cons_zero, List.set_cons_succ]
    refine wpAnyH_take (i := 12) (oi := { dst := some 18, op := _, type := _, pos := _, after := _, guard := some (2, true) }) (v := undef) rfl (by kernel_rfl) (by kernel_rfl) (by kernel_rfl) (fun _ _ _ h => h) (Or.inr ⟨rfl, rfl⟩) hHeld2 ?_
    try simp only [Act.put, List.setIfInBounds_toArray, List.set_cons_zero, List.set_cons_succ]
    refine wpAnyH_take (i := 13) (oi := { dst := some 19, op := _, type := _, pos := _, after := _, guard := some (2, true) }) (v := undef) rfl (by kernel_rfl) (by kernel_rfl) (by kernel_rfl) (fun _ _ _ h => h) (Or.inr ⟨rfl, rfl⟩) hHeld2 ?_
    try simp only [Act.put, List.setIfInBounds_toArray, List.set_cons_zero, List.set_cons_succ]
    refine wpAnyH_take (i := 14) (oi := { dst := some 20, op := _, type := _, pos := _, after := _, guard := some (2, true) }) (v := undef) rfl (by kernel_rfl) (by kernel_rfl) (by kernel_rfl) (fun _ _ _ h => h) (Or.inr ⟨rfl, rfl⟩) hHeld2 ?_
    try simp only [Act.put, List.setIfInBounds_toArray, List.set_cons_zero, List.set_cons_succ]
    refine wpAnyH_take (i := 15) (oi := { dst := some 21, op := Op.pick (Operand.tmp 8) (Operand.tmp 20) (Operand.const (Value.bool false)), type := _, pos := _, after := _, guard := none }) (v := ?_) rfl (by kernel_rfl) (by kernel_rfl) (by kernel_rfl) (fun _ _ _ h => h) (Or.inl ⟨rfl, ?_⟩) hHeld2 ?_
    rotate_left
    · intro w hSw
      try dsimp only at hSw
      go_simp
      try exact rfl
    try simp only [Act.put, List.setIfInBounds_toArray, List.set_cons_zero, List.set_cons_succ]
    refine wpAnyH_take (i := 16) (oi := { dst := some 5, op := Op.assign (Operand.tmp 21), type := _, pos := _, after := _, guard := none }) (v := ?_) rfl (by kernel_rfl) (by kernel_rfl) (by kernel_rfl) (fun _ _ _ h => h) (Or.inl ⟨rfl, ?_⟩) hHeld2 ?_
    rotate_left
    · intro w hSw
      try dsimp only at hSw
      go_simp
      try exact rfl
    try simp only [Act.put, List.setIfInBounds_toArray, List.set_cons_zero, List.set_cons_succ]
    refine wpAnyH_done (by kernel_rfl) ?_ _
    clear hHeld hHeld2
    have z9 := pw_cell_below (show Below w.heap.size w w.drew by assumption) Y9.out
    have g9 := (World.frozen?_of_block (a := ⟨g, 1 + i * 20 + 9, none⟩) (hS0.block g HP.out.lt)).trans F9.out
    clear u0 u4 u8
    generalize w.drew = wd at hS0 z9 g9 ⊢
    cases late with
    | false =>
      go_wp2
      go_ret2
      exact ⟨rfl, FIN.out _ hS0 _ (by simp) rfl⟩
    | true =>
      go_wp2
      go_ret2
      exact ⟨rfl, FIN.out _ hS0 _ (by simp) rfl⟩
  | true =>
    by_cases he : ev ≤ t
    · have he2 := decide_eq_true he
      obtain rfl : r = true := by rw [← hr, he2]; rfl
      clear hr
      go_wp2
      go_region_held3 (fun X => Below w.heap.size w X) (first | assumption | exact hS0 | exact below_step (by assumption) (by assumption) | exact below_drew (by assumption))
        ((go_at_call 102; go_loud (refine (HW.out _ (by assumption)).mono ?_; rintro e w4 ⟨rfl, hw4⟩; have hw4 := hw4.symm; subst hw4)))
      have z9 := pw_cell_below (show Below w.heap.size w w.drew by assumption) Y9.out
      have g9 := (World.frozen?_of_block (a := ⟨g, 1 + i * 20 + 9, none⟩) (hS0.block g HP.out.lt)).trans F9.out
      clear u0 u4 u8
      generalize w.drew = wd at hS0 z9 g9 ⊢
      cases late with
      | false =>
        go_wp2
        go_ret2
        exact ⟨rfl, FIN.out _ hS0 _ (by simp) rfl⟩
      | true =>
        go_wp2
        go_ret2
        exact ⟨rfl, FIN.out _ hS0 _ (by simp) rfl⟩
    · have he2 := decide_eq_false he
      obtain rfl : r = false := by rw [← hr, he2]; rfl
      clear hr
      go_wp2
      go_region_held3 (fun X => Below w.heap.size w X) (first | assumption | exact hS0 | exact below_step (by assumption) (by assumption) | exact below_drew (by assumption))
        ((go_at_call 102; go_loud (refine (HW.out _ (by assumption)).mono ?_; rintro e w4 ⟨rfl, hw4⟩; have hw4 := hw4.symm; subst hw4)))
      have z9 := pw_cell_below (show Below w.heap.size w w.drew by assumption) Y9.out
      have g9 := (World.frozen?_of_block (a := ⟨g, 1 + i * 20 + 9, none⟩) (hS0.block g HP.out.lt)).trans F9.out
      clear u0 u4 u8
      generalize w.drew = wd at hS0 z9 g9 ⊢
      cases late with
      | false =>
        go_wp2
        go_ret2
        exact ⟨rfl, FIN.out _ hS0 _ (by simp) rfl⟩
      | true =>
        go_wp2
        go_ret2
        exact ⟨rfl, FIN.out _ hS0 _ (by simp) rfl⟩
end Go.Proofs.YtokebpeplopjhaaDoor.Mp
namespace Go.Proofs.YtokebpeplopjhaaDoor.Mp
open Go.RowKit Go.Shelf Go.Proofs.YtokebpeplopjhaaDoor.Rng Go.Proofs.YtokebpeplopjhaaDoorW.PrintWords Go.Proofs.YtokebpeplopjhaaDoorW.PrintMore Go.Proofs.YtokebpeplopjhaaDoorW.PrintLast

set_option maxRecDepth 100000 in
set_option maxHeartbeats 2000000 in
theorem pTick_any (B g gd bi bs : Nat) (d : DD) (os : Nat → Ob) (vm vb : Nat → Value) (n0 now : Int) (w : World) (h : PrAt w g (.pointer (some ⟨gd, 0, none⟩)) os vm vb true n0) (hD : DictB B w gd bi bs d) (hne : gd ≠ g ∧ bi ≠ g ∧ bs ≠ g) (hG : Good d) (ht : TblB B w) (hBg : B ≤ g) (hmw : ∀ i, i < 8 → (∀ m ∈ (os i).maps, m.Wf) ∧ (os i).maps.length ≤ 1000) (hid : ∀ i, i < 8 → 0 ≤ (os i).cm.id) (htm : timeC now) :
    Calls Tryd.prog 45 #[.pointer (some ⟨g, 0, none⟩), .int .i64 now] w fun e w' => ∃ A c, e = .returned (.slice A (eachF (fun x => tickC (some d) x now) (some d) os 8).length c) ∧ kI.C w' A (eachF (fun x => tickC (some d) x now) (some d) os 8).length (frL (eachF (fun x => tickC (some d) x now) (some d) os 8)) ∧ (∃ vb', PrAt w' g (.pointer (some ⟨gd, 0, none⟩)) (eachO (fun x => tickC (some d) x now) (some d) now os 8) vm vb' true now) ∧ Fr (fun k => k = g) w w' ∧ Keep8 w w' := by
  have hb2 : Below w.heap.size w ((w.alloc (.cells #[.pointer (some ⟨g, 0, none⟩)] 78)).alloc (.cells #[.int .i64 now] 2)) := (below_alloc (Below.refl _ _) _).alloc (by simp) _
  have hgl := h.lt
  have hn := Go.Proofs.YtokebpeplopjhaaDoorW.PrintWords.blk_cell (blk_new (w.alloc (.cells #[.pointer (some ⟨g, 0, none⟩)] 78)) (.cells #[.int .i64 now] 2)) 0
  have hp := Go.Proofs.YtokebpeplopjhaaDoorW.PrintWords.blk_cell (blk_below (blk_new w (.cells #[.pointer (some ⟨g, 0, none⟩)] 78)) (below_alloc (Below.refl _ _) (.cells #[.int .i64 now] 2))) 0
  have hsz : (w.alloc (.cells #[.pointer (some ⟨g, 0, none⟩)] 78)).heap.size = w.heap.size + 1 := by simp
  rw [hsz] at hn
  have HE := Aside0.mk (peach_tick B g gd bi bs (w.heap.size + 1) w.heap.size d os vm vb n0 now _ (h.below hb2) (hD.below hb2) hne hG (ht.below (hb2.mono (by omega))) hBg hmw hn hp ⟨by omega, by omega⟩ hid htm)
  have HB2 := Aside0.mk hb2
  clear h hD hG ht hmw hid htm hn hp hb2 hsz
  go_enter Tryd.func45, Tryd.ntmps45
  go_wp2_with (go_at_call 93; go_loud (refine HE.out.mono ?_; rintro e w3 ⟨A, c, rfl, h1, h2, h3, h4⟩; have H := Aside0.mk (And.intro h1 (And.intro h2 (And.intro h3 h4))); clear h1 h2 h3 h4))
  go_ret
  exact ⟨A, c, rfl, H.out.1, H.out.2.1, (Fr.of_below HB2.out).trans H.out.2.2.1, (Keep8.below HB2.out).trans H.out.2.2.2⟩
end Go.Proofs.YtokebpeplopjhaaDoor.Mp
