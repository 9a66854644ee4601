/- MappingGaps, walked. -/
import Derived.Test.YtokebpeplopjhaaDoorY8
namespace Go.Proofs.YtokebpeplopjhaaDoor.Mp
open Go.RowKit Go.Shelf Go.Proofs.YtokebpeplopjhaaDoor.Rng Go.Proofs.YtokebpeplopjhaaDoorW.PrintWords Go.Proofs.YtokebpeplopjhaaDoorW.PrintMore Go.Proofs.YtokebpeplopjhaaDoorW.PrintLast

theorem ArgV.arg {w : World} {A : Option Addr} {n c : Nat} {zs : List Int} (h : ArgV w (.slice A n c) zs) : Arg w A c zs := by
  obtain ⟨A', c', e, h1, _⟩ := h
  injection e with e1 e2 e3
  subst e1 e3
  exact h1
/-- Maps as a kind of elements. -/
abbrev kM : Kd ((Int × Int) × Int) := Kd.pair (Kd.pair (Kd.int .u16) (Kd.int .u8)) (Kd.int .i64)
def mpT (m : Mp) : (Int × Int) × Int := ((m.ix, m.sub), m.bits)
theorem info_mp : (Tryd.prog.info? 48).map (fun i => (i.zero, i.size, i.bytes)) = some (some (.agg #[.int .u16 0, .int .u8 0, .int .i64 0]), 3, 16) := by kernel_rfl
theorem ms_rows {w w0 : World} {A : Option Addr} {l : List Mp} (h : MsAt w A l) (hl : l.length ≤ 9223372036854775807) : ReadsRow (fun x cs => kM.K w0 x cs) 3 w A l.length (l.map mpT) := by
  refine ⟨by simp, hl, fun h0 => ?_⟩
  obtain ⟨ad, rfl, -⟩ := h 0 _ (List.getElem?_eq_getElem h0)
  refine ⟨ad, rfl, fun j p hj => ?_⟩
  obtain ⟨m, hm, rfl⟩ := List.getElem?_map (f := mpT) ▸ hj |> Option.map_eq_some_iff.1
  obtain ⟨ad2, e, y0, y1, y2⟩ := h j m hm
  injection e with e
  subst e
  refine ⟨[.int .u16 m.ix, .int .u8 m.sub, .int .i64 m.bits], rfl, ⟨[.int .u16 m.ix, .int .u8 m.sub], [.int .i64 m.bits], rfl, ⟨[.int .u16 m.ix], [.int .u8 m.sub], rfl, rfl, rfl⟩, rfl⟩, fun i u hu => ?_⟩
  match i, hu with
  | 0, hu => injection hu with hu; subst hu; exact y0
  | 1, hu => injection hu with hu; subst hu; rw [add_field _ _ 1 (by omega)]; exact y1
  | 2, hu => injection hu with hu; subst hu; rw [add_field _ _ 2 (by omega)]; exact y2
theorem ms_of_C {w : World} {A : Option Addr} {l : List Mp} (h : kM.C w A l.length (l.map mpT)) : MsAt w A l := by
  intro j m hj
  have hjl : j < l.length := (List.getElem?_eq_some_iff.1 hj).1
  obtain ⟨ad, hA, hc⟩ := h.2.2 (by omega)
  obtain ⟨c, hcl, hK, hcell⟩ := hc j (mpT m) (by simp [hj])
  obtain ⟨_, _, rfl, ⟨_, _, rfl, rfl, rfl⟩, rfl⟩ := hK
  refine ⟨ad, hA, hcell 0 _ rfl, ?_, ?_⟩
  · rw [← add_field _ _ 1 (by omega)]
    exact hcell 1 _ rfl
  · rw [← add_field _ _ 2 (by omega)]
    exact hcell 2 _ rfl
theorem R_one (W : World) (base : Nat) (hb : base ≤ W.heap.size) (m : Mp) : Kd.R kM 48 (W.alloc (.cells #[.int .u16 m.ix, .int .u8 m.sub, .int .i64 m.bits] 48)) base (fun k => base ≤ k) (.slice (some ⟨W.heap.size, 0, none⟩) 1 1) [mpT m] := by
  refine ⟨fun k hk => ?_, [.int .u16 m.ix, .int .u8 m.sub, .int .i64 m.bits], ?_, ⟨rfl, fun j p hj => ?_⟩⟩
  · simp [Value.ownBlock] at hk
    omega
  · have h2 := World.ownsRow_lit (base := base) (e := 48) (size := 3) W #[.int .u16 m.ix, .int .u8 m.sub, .int .i64 m.bits] 1 hb (by simp [maxLen]) (by simp)
    exact h2
  · match j, hj with
    | 0, hj =>
      injection hj with hj
      subst hj
      exact ⟨[.int .u16 m.ix, .int .u8 m.sub], [.int .i64 m.bits], rfl, ⟨[.int .u16 m.ix], [.int .u8 m.sub], rfl, rfl, rfl⟩, rfl⟩
theorem Arg.drop {w : World} {ad : Addr} {c : Nat} {b : List Int} (h : Arg w (some ad) c b) (n : Nat) (hn : n ≤ b.length) : Arg w (some (ad.add n)) (c - n) (b.drop n) := by
  have h1 := h.le
  have h2 := h.cap
  exact ⟨h.rd.drop n, fun x hx => h.byt x (List.mem_of_mem_drop hx), by rw [List.length_drop]; omega, by omega⟩
theorem Arg.cut {w : World} {ad : Addr} {c : Nat} {b : List Int} (h : Arg w (some ad) c b) (n : Nat) (h0 : 0 < n) (hn : n ≤ b.length) : Arg w (some ⟨ad.block, ad.off + n, none⟩) (c - n) (b.drop n) ∧ (c = n → Arg w (some ad) 0 (b.drop n)) := by
  have h1 := h.drop n hn
  have e : ad.add n = ⟨ad.block, ad.off + n, none⟩ := by unfold Addr.add; rw [if_neg (by omega)]
  rw [e] at h1
  refine ⟨h1, fun hc => ?_⟩
  have h2 := h.le
  have h3 : b.drop n = [] := List.drop_of_length_le (by omega)
  rw [h3]
  exact ⟨⟨by simp, fun h => by simp at h⟩, (by intro x hx; cases hx), Nat.le_refl _, by omega⟩
set_option maxRecDepth 100000 in
set_option maxHeartbeats 4000000 in
theorem gaps_1 (l : List En) (A : Option Addr) (c : Nat) (ms : List Mp) (A2 : Option Addr) (c2 : Nat) (b : List Int) (Ab : Option Addr) (cb : Nat) (q : Int) (w : World) (hE : EsAt w A l) (hwg : ∀ e ∈ l, e.Wg ∧ Byt e.df) (hl : l.length ≤ 140737488355328) (hM : MsAt w A2 ms) (hmw : ∀ m ∈ ms, m.Wf) (hml : ms.length ≤ 140737488355328) (hb : Arg w Ab cb b) (hbl : b.length ≤ 140737488355328) (hq3 : Int.tmod q 3 = 0) (ht : Tbl w) :
    Calls Tryd.prog 5 #[.slice A l.length c, .slice A2 ms.length c2, .slice Ab b.length cb, .int .u8 q] w fun e w' => e = .returned (.bool true) ∧ Below w.heap.size w w' := by
  have HSZ := Aside0.mk (size_es l A c w hE hl (fun e he => (hwg e he).1.name))
  have HT := Aside0.mk ht
  have HE := Aside0.mk hE
  have HM := Aside0.mk hM
  have HMW := Aside0.mk hmw
  have HSM := Aside0.mk fun h => small_wf (l := l) h hwg
  have HBA := Aside0.mk hb
  obtain ⟨s, hs⟩ : ∃ s, szL l 0 = s := ⟨_, rfl⟩
  rw [hs] at HSZ HSM
  obtain ⟨n, hn⟩ : ∃ n, ms.length = n := ⟨_, rfl⟩
  have HN := Aside0.mk hn
  rw [hn] at hml ⊢
  obtain ⟨nl, hnl⟩ : ∃ nl, l.length = nl := ⟨_, rfl⟩
  have HNL := Aside0.mk hnl
  rw [hnl] at HSZ ⊢
  obtain ⟨nb, hnb⟩ : ∃ nb, b.length = nb := ⟨_, rfl⟩
  have HNB := Aside0.mk hnb
  have hcb : nb ≤ cb ∧ cb ≤ 9223372036854775807 := by rw [← hnb]; exact ⟨hb.le, hb.cap⟩
  rw [hnb] at hbl ⊢
  clear hE hM hmw ht hs hn hnl hwg hl hb hnb
  by_cases h1 : 5000 < s
  · go_enter Tryd.func5, Tryd.ntmps5
    go_wp2_with (first
      | (go_at_call 17; refine HSZ.out.mono ?_; rintro e w1 ⟨rfl, hb1⟩; have HB1 := Aside0.mk hb1; clear hb1)
      | (go_at_call 18; refine (works_any _ (HT.out.below HB1.out)).mono ?_; rintro e w4 ⟨rfl, hb4⟩; have HB4 := Aside0.mk (HB1.out.trans (hb4.mono HB1.out.size)); clear hb4))
    go_ret
    exact ⟨rfl, HB4.out⟩
  by_cases h2 : 60 < n
  · go_enter Tryd.func5, Tryd.ntmps5
    go_wp2_with (first
      | (go_at_call 17; refine HSZ.out.mono ?_; rintro e w1 ⟨rfl, hb1⟩; have HB1 := Aside0.mk hb1; clear hb1)
      | (go_at_call 18; refine (works_any _ (HT.out.below HB1.out)).mono ?_; rintro e w4 ⟨rfl, hb4⟩; have HB4 := Aside0.mk (HB1.out.trans (hb4.mono HB1.out.size)); clear hb4))
    go_ret
    exact ⟨rfl, HB4.out⟩
  by_cases h3 : 100 < nb
  · go_enter Tryd.func5, Tryd.ntmps5
    go_wp2_with (first
      | (go_at_call 17; refine HSZ.out.mono ?_; rintro e w1 ⟨rfl, hb1⟩; have HB1 := Aside0.mk hb1; clear hb1)
      | (go_at_call 18; refine (works_any _ (HT.out.below HB1.out)).mono ?_; rintro e w4 ⟨rfl, hb4⟩; have HB4 := Aside0.mk (HB1.out.trans (hb4.mono HB1.out.size)); clear hb4))
    go_ret
    exact ⟨rfl, HB4.out⟩
  have hwf := HSM.out (by omega)
  have HWF := Aside0.mk hwf
  rcases newR_form hwf with ⟨r, hr, hr0⟩ | ⟨d, hr, hd⟩
  · have HR := Aside0.mk hr
    have q1 : (r == 0) = false := by simpa using hr0
    have q2 : (r != 0) = true := by simpa using hr0
    clear hr hwf
    go_enter Tryd.func5, Tryd.ntmps5
    go_wp2_with (first
      | (go_at_call 17; refine HSZ.out.mono ?_; rintro e w1 ⟨rfl, hb1⟩; have HB1 := Aside0.mk hb1; clear hb1)
      | (go_at_call 19; rw [← HNL.out]; refine (new_all w.heap.size l A c w1 (HE.out.below HB1.out) (fun e he => (HWF.out e he).1) (HT.out.below HB1.out) HB1.out.size _ HR.out).mono ?_; rw [HNL.out]; rintro e w2 ⟨hb2, rfl⟩; have HB2 := Aside0.mk (HB1.out.trans (hb2.mono HB1.out.size)); clear hb2)
      | (go_at_call 18; refine (works_any _ (HT.out.below HB2.out)).mono ?_; rintro e w4 ⟨rfl, hb4⟩; have HB4 := Aside0.mk (HB2.out.trans (hb4.mono HB2.out.size)); clear hb4))
    go_ret
    exact ⟨rfl, HB4.out⟩
  have HR := Aside0.mk hr
  have HG := Aside0.mk hd
  clear hr hd hwf
  have hgm : Mp.Wf ⟨5, 0, 8⟩ := ⟨by decide, by decide, by decide⟩
  have hggap : gapC ⟨5, 0, 8⟩ := by decide
  obtain ⟨gl, hgl⟩ : ∃ gl : List Mp, ⟨5, 0, 8⟩ :: ms = gl := ⟨_, rfl⟩
  have HGL := Aside0.mk hgl
  have HGW := Aside0.mk (show ∀ m ∈ gl, m.Wf from fun m hm => by
    rw [← hgl] at hm
    rcases List.mem_cons.1 hm with rfl | hm
    · exact hgm
    · exact HMW.out m hm)
  have hgn : gl.length = 1 + n := by rw [← hgl, List.length_cons, HN.out]; omega
  have HGN := Aside0.mk hgn
  obtain ⟨ck, hck⟩ : ∃ ck, checkC (some d) gl false = ck := ⟨_, rfl⟩
  have HCK := Aside0.mk hck
  clear hck hgn hgl hgm
  by_cases hc : ck = 0 ∧ 1 ≤ nb
  case neg =>
    go_enter Tryd.func5, Tryd.ntmps5
    go_wp2_with (first
      | (go_at_call 17; refine HSZ.out.mono ?_; rintro e w1 ⟨rfl, hb1⟩; have HB1 := Aside0.mk hb1; clear hb1)
      | (go_at_call 19; rw [← HNL.out]; refine (new_all w.heap.size l A c w1 (HE.out.below HB1.out) (fun e he => (HWF.out e he).1) (HT.out.below HB1.out) HB1.out.size _ HR.out).mono ?_; rw [HNL.out]; rintro e w2 ⟨hb2, gd, bi, bs, rfl, hg, hbi, hbs, hD⟩; have HB2 := Aside0.mk (HB1.out.trans (hb2.mono HB1.out.size)); have HD := Aside0.mk hD; clear hb2 hD hg hbi hbs)
      | ((with_reducible refine gate_builtin (b := .append) (xs := #[.tmp 54, .tmp 55]) rfl ?_); at_builtin; refine Kd.R_append_rows kM (Rr := fun x cs => kM.K w2 x cs) (w0 := w2) w2.heap.size rfl (.tmp 54) (.tmp 55) 23 48 (.agg #[.int .u16 0, .int .u8 0, .int .i64 0]) 16 rfl Tryd.underlying23 info_mp rfl (by decide) (by decide) _ [mpT ⟨5, 0, 8⟩] (ms.map mpT) A2 n c2 (fun k => w2.heap.size ≤ k) (fun _ => False) rfl rfl (R_one w2 _ (Nat.le_refl _) ⟨5, 0, 8⟩) (HN.out ▸ ms_rows (HM.out.below (below_step HB2.out (below_alloc (Below.refl _ _) _))) (by have := HN.out; omega)) (fun x cs hx => by obtain ⟨_, _, rfl, ⟨_, _, rfl, rfl, rfl⟩, rfl⟩ := hx; exact ⟨_, _, rfl, ⟨_, _, rfl, rfl, rfl⟩, rfl⟩) (fun k hk => hk.elim) (fun k hk => by simp at hk; omega) (below_alloc (Below.refl _ _) _) (by simp) (by simp; omega) ?_; intro v3 w3 hown hb3 hg3 hat3; obtain ⟨A3, c3, rfl, -, hC3⟩ := Kd.R_reads hown; rw [show [mpT ⟨5, 0, 8⟩] ++ ms.map mpT = (⟨5, 0, 8⟩ :: ms : List Mp).map mpT from rfl, List.length_map] at hC3; have HM3 := Aside0.mk (show MsAt w3 A3 gl from HGL.out ▸ ms_of_C (l := ⟨5, 0, 8⟩ :: ms) hC3); have HB3 := Aside0.mk (HB2.out.trans (hb3.mono HB2.out.size)); have HD3 := Aside0.mk (HD.out.below hb3); rw [show ([mpT ⟨5, 0, 8⟩] ++ ms.map mpT).length = 1 + n from by simp [HN.out]; omega]; clear hown hb3 hg3 hat3 hC3)
      | (go_at_call 21; rw [← HGN.out]; refine (mcheck_any w.heap.size _ (some d) gl A3 c3 false w3 ⟨gd, rfl, HD3.out.dict⟩ (HT.out.below HB3.out) HM3.out (by have := HGN.out; omega) HGW.out HG.out.find).mono ?_; rw [HCK.out, HGN.out]; rintro e w4 ⟨rfl, hb4⟩; have HB4 := Aside0.mk (HB3.out.trans (hb4.mono HB3.out.size)); have HM4 := Aside0.mk (HM3.out.below hb4); have HD4 := Aside0.mk (HD3.out.below hb4); clear hb4)
      | (go_at_call 18; refine (works_any _ (HT.out.below HB4.out)).mono ?_; rintro e w5 ⟨rfl, hb5⟩; have HB5 := Aside0.mk (HB4.out.trans (hb5.mono HB4.out.size)); clear hb5))
    all_goals
      go_ret
      exact ⟨rfl, HB5.out⟩
  case pos =>
    obtain ⟨rfl, hnb4⟩ := hc
    have HUG := Aside0.mk (unpack_gap d ⟨5, 0, 8⟩ ms b 1 hggap rfl (by rw [HNB.out]; exact hnb4) (by rw [HGL.out]; exact HCK.out))
    rw [HGL.out] at HUG
    obtain ⟨⟨xs, tt⟩, hxt⟩ : ∃ r, unpackC (some d) ms (b.drop 1) = r := ⟨_, rfl⟩
    rw [hxt] at HUG
    have HUM := Aside0.mk hxt
    obtain ⟨hok, hxl⟩ := unpack_ok (o := some d) (b := b.drop 1) HMW.out
    rw [hxt] at hok hxl
    rw [HN.out] at hxl
    have HOK := Aside0.mk hok
    obtain ⟨ab, rfl⟩ : ∃ ab, Ab = some ab := by
      obtain ⟨ab, e, -⟩ := HBA.out.rd.2 (by rw [HNB.out]; omega)
      exact ⟨ab, e⟩
    obtain ⟨nx, hnx⟩ : ∃ nx, xs.length = nx := ⟨_, rfl⟩
    have HNX := Aside0.mk hnx
    simp only at hxl
    rw [hnx] at hxl
    have HDR := Aside0.mk (show (b.drop 1).length = nb - 1 by rw [List.length_drop, HNB.out])
    have HG5 := Aside0.mk True.intro
    have HU1 := Aside0.mk fun (W : World) (gd bi bs : Nat) (A' : Option Addr) (c' : Nat) (h1 : DictB w.heap.size W gd bi bs d) (h2 : Below w.heap.size w W) (h3 : MsAt W A' gl) => (show Calls Tryd.prog 27 #[.pointer (some ⟨gd, 0, none⟩), .slice A' (1 + n) c', .slice (some ab) nb cb] W (UnpSaid W (xs, tt)) by
      have h := unpack_any w.heap.size (.pointer (some ⟨gd, 0, none⟩)) (some d) gl A' c' (some ab) cb b W ⟨gd, rfl, h1.dict⟩ (HT.out.below h2) h3 (by have := HGN.out; omega) HGW.out HG.out.find (HBA.out.below h2)
      rw [HUG.out, HGN.out, HNB.out] at h
      exact h)
    have HU2 := Aside0.mk fun (W : World) (gd bi bs : Nat) (A' : Option Addr) (c' : Nat) (h1 : DictB w.heap.size W gd bi bs d) (h2 : Below w.heap.size w W) (h3 : Arg W A' c' (b.drop 1)) => (show Calls Tryd.prog 27 #[.pointer (some ⟨gd, 0, none⟩), .slice A2 n c2, .slice A' (nb - 1) c'] W (UnpSaid W (xs, tt)) by
      have h := unpack_any w.heap.size (.pointer (some ⟨gd, 0, none⟩)) (some d) ms A2 c2 A' c' (b.drop 1) W ⟨gd, rfl, h1.dict⟩ (HT.out.below h2) (HM.out.below h2) (by have := HN.out; omega) HMW.out HG.out.find h3
      rw [HUM.out, HN.out, HDR.out] at h
      exact h)
    clear hxt hok hnx
    by_cases hcn : 1 < cb
    · go_enter Tryd.func5, Tryd.ntmps5
      go_wp2_with (first
        | (go_at_call 17; refine HSZ.out.mono ?_; rintro e w1 ⟨rfl, hb1⟩; have HB1 := Aside0.mk hb1; clear hb1)
        | (go_at_call 19; rw [← HNL.out]; refine (new_all w.heap.size l A c w1 (HE.out.below HB1.out) (fun e he => (HWF.out e he).1) (HT.out.below HB1.out) HB1.out.size _ HR.out).mono ?_; rw [HNL.out]; rintro e w2 ⟨hb2, gd, bi, bs, rfl, hg, hbi, hbs, hD⟩; have HB2 := Aside0.mk (HB1.out.trans (hb2.mono HB1.out.size)); have HD := Aside0.mk hD; clear hb2 hD hg hbi hbs)
        | ((with_reducible refine gate_builtin (b := .append) (xs := #[.tmp 54, .tmp 55]) rfl ?_); at_builtin; refine Kd.R_append_rows kM (Rr := fun x cs => kM.K w2 x cs) (w0 := w2) w2.heap.size rfl (.tmp 54) (.tmp 55) 23 48 (.agg #[.int .u16 0, .int .u8 0, .int .i64 0]) 16 rfl Tryd.underlying23 info_mp rfl (by decide) (by decide) _ [mpT ⟨5, 0, 8⟩] (ms.map mpT) A2 n c2 (fun k => w2.heap.size ≤ k) (fun _ => False) rfl rfl (R_one w2 _ (Nat.le_refl _) ⟨5, 0, 8⟩) (HN.out ▸ ms_rows (HM.out.below (below_step HB2.out (below_alloc (Below.refl _ _) _))) (by have := HN.out; omega)) (fun x cs hx => by obtain ⟨_, _, rfl, ⟨_, _, rfl, rfl, rfl⟩, rfl⟩ := hx; exact ⟨_, _, rfl, ⟨_, _, rfl, rfl, rfl⟩, rfl⟩) (fun k hk => hk.elim) (fun k hk => by simp at hk; omega) (below_alloc (Below.refl _ _) _) (by simp) (by simp; omega) ?_; intro v3 w3 hown hb3 hg3 hat3; obtain ⟨A3, c3, rfl, -, hC3⟩ := Kd.R_reads hown; rw [show [mpT ⟨5, 0, 8⟩] ++ ms.map mpT = (⟨5, 0, 8⟩ :: ms : List Mp).map mpT from rfl, List.length_map] at hC3; have HM3 := Aside0.mk (show MsAt w3 A3 gl from HGL.out ▸ ms_of_C (l := ⟨5, 0, 8⟩ :: ms) hC3); have HB3 := Aside0.mk (HB2.out.trans (hb3.mono HB2.out.size)); have HD3 := Aside0.mk (HD.out.below hb3); rw [show ([mpT ⟨5, 0, 8⟩] ++ ms.map mpT).length = 1 + n from by simp [HN.out]; omega]; clear hown hb3 hg3 hat3 hC3)
        | (go_at_call 21; rw [← HGN.out]; refine (mcheck_any w.heap.size _ (some d) gl A3 c3 false w3 ⟨gd, rfl, HD3.out.dict⟩ (HT.out.below HB3.out) HM3.out (by have := HGN.out; omega) HGW.out HG.out.find).mono ?_; rw [HCK.out, HGN.out]; rintro e w4 ⟨rfl, hb4⟩; have HB4 := Aside0.mk (HB3.out.trans (hb4.mono HB3.out.size)); have HM4 := Aside0.mk (HM3.out.below hb4); have HD4 := Aside0.mk (HD3.out.below hb4); clear hb4)
        | (have hgate := HG5.out; clear hgate; go_at_call 27; refine (HU1.out w4 gd bi bs A3 c3 HD4.out HB4.out HM4.out).mono ?_; rintro e w5 ⟨v5, base5, rfl, hbase5, hR5, hb5⟩; have HB5 := Aside0.mk (HB4.out.trans (hb5.mono HB4.out.size)); have HD5 := Aside0.mk (HD4.out.below hb5); obtain ⟨A5, c5, rfl, -, -⟩ := Kd.R_reads hR5; have HR5 := Aside0.mk hR5; rw [HNX.out]; clear hbase5 hR5 hb5 HG5)
        | (go_at_call 27; refine (HU2.out w5 gd bi bs (some ⟨ab.block, ab.off + 1, none⟩) (cb - 1) HD5.out HB5.out ((HBA.out.below HB5.out).cut 1 (by decide) (by rw [HNB.out]; exact hnb4)).1).mono ?_; rintro e w6 ⟨v6, base6, rfl, hbase6, hR6, hb6⟩; have HB6 := Aside0.mk (HB5.out.trans (hb6.mono HB5.out.size)); have HR56 := Aside0.mk (Kd.R_below HR5.out hb6); obtain ⟨A6, c6, rfl, -, -⟩ := Kd.R_reads hR6; have HR6 := Aside0.mk hR6; rw [HNX.out]; clear hbase6 hR6 hb6))
      go_loopw [18] (fun iv wr => ∃ k : Nat, k ≤ nx ∧ iv = .int .i64 k ∧ Aside0 (Below w6.heap.size w6 wr)) (fun iv _ => nx - (intOf iv).toNat)
      case atStart => exact ⟨0, Nat.zero_le _, rfl, ⟨Below.refl _ _⟩⟩
      case round =>
        obtain ⟨k, hk, rfl, HB⟩ := hrel
        by_cases hlt : k < nx
        · have hkx : k < xs.length := by rw [HNX.out]; exact hlt
          have hmem : xs[k]?.getD zVl ∈ xs := by
            rw [List.getElem?_eq_getElem hkx]
            exact List.getElem_mem hkx
          have hok := HOK.out _ hmem
          obtain ⟨g1, cap1, A7, c7, hv1, y0, y1, y2, ha7⟩ := vl_at (Kd.R_below HR56.out HB.out) k hkx hok
          obtain ⟨g2, cap2, A8, c8, hv2, z0, z1, z2, ha8⟩ := vl_at (Kd.R_below HR6.out HB.out) k hkx hok
          rw [HNX.out] at hv1 hv2
          injection hv1 with hv1 _ hv1'
          subst hv1 hv1'
          injection hv2 with hv2 _ hv2'
          subst hv2 hv2'
          generalize xs[k]?.getD zVl = x at *
          obtain ⟨⟨ix, sub⟩, zs⟩ := x
          simp only at y0 y1 y2 z0 z1 z2 ha7 ha8
          have cv7 := fun X hX => str_at (c := c7) (Rd_C ha7.arg.rd) X hX
          have cv8 := fun X hX => str_at (c := c8) (Rd_C ha8.arg.rd) X hX
          have u0 : ∀ X, Below wr.heap.size wr X → X.cell? ⟨g1, k * 3, none⟩ = some (.int .u16 ix) := fun X hX => pw_cell_below hX y0
          have u1 : ∀ X, Below wr.heap.size wr X → X.cell? ⟨g1, k * 3 + 1, none⟩ = some (.int .u8 sub) := fun X hX => pw_cell_below hX y1
          have u2 : ∀ X, Below wr.heap.size wr X → X.cell? ⟨g1, k * 3 + 2, none⟩ = some (.slice A7 zs.length c7) := fun X hX => pw_cell_below hX y2
          have w0 : ∀ X, Below wr.heap.size wr X → X.cell? ⟨g2, k * 3, none⟩ = some (.int .u16 ix) := fun X hX => pw_cell_below hX z0
          have w1' : ∀ X, Below wr.heap.size wr X → X.cell? ⟨g2, k * 3 + 1, none⟩ = some (.int .u8 sub) := fun X hX => pw_cell_below hX z1
          have w2' : ∀ X, Below wr.heap.size wr X → X.cell? ⟨g2, k * 3 + 2, none⟩ = some (.slice A8 zs.length c8) := fun X hX => pw_cell_below hX z2
          have hS0 : Below wr.heap.size wr wr := Below.refl _ _
          have hi1 : (k : Int) < (nx : Int) := by omega
          have hi3 : (0 : Int) ≤ (k : Int) := by omega
          rw [HNX.out] at HR5 HR56 HR6
          clear y0 y1 y2 z0 z1 z2 ha7 ha8 hok hmem hkx
          go_wp2
          go_region_held3 (fun X => Below wr.heap.size wr X) (first | assumption | exact below_step (by assumption) (by assumption) | exact below_drew (by assumption))
            (fail)
          go_wp2
          go_roundw
          case rel => exact ⟨k + 1, by omega, by go_num, ⟨HB.out.drew⟩⟩
          case measure => simp [intOf]; omega
        · obtain rfl : k = nx := by omega
          have HB7 := Aside0.mk (HB6.out.trans (HB.out.mono HB6.out.size))
          go_wp2_with (go_at_call 18; refine (works_any _ (HT.out.below HB7.out)).mono ?_; rintro e w8 ⟨rfl, hb8⟩; have HB8 := Aside0.mk (HB7.out.trans (hb8.mono HB7.out.size)); clear hb8)
          go_ret
          exact ⟨rfl, HB8.out⟩
    · obtain rfl : cb = 1 := by omega
      obtain rfl : nb = 1 := by omega
      go_enter Tryd.func5, Tryd.ntmps5
      go_wp2_with (first
        | (go_at_call 17; refine HSZ.out.mono ?_; rintro e w1 ⟨rfl, hb1⟩; have HB1 := Aside0.mk hb1; clear hb1)
        | (go_at_call 19; rw [← HNL.out]; refine (new_all w.heap.size l A c w1 (HE.out.below HB1.out) (fun e he => (HWF.out e he).1) (HT.out.below HB1.out) HB1.out.size _ HR.out).mono ?_; rw [HNL.out]; rintro e w2 ⟨hb2, gd, bi, bs, rfl, hg, hbi, hbs, hD⟩; have HB2 := Aside0.mk (HB1.out.trans (hb2.mono HB1.out.size)); have HD := Aside0.mk hD; clear hb2 hD hg hbi hbs)
        | ((with_reducible refine gate_builtin (b := .append) (xs := #[.tmp 54, .tmp 55]) rfl ?_); at_builtin; refine Kd.R_append_rows kM (Rr := fun x cs => kM.K w2 x cs) (w0 := w2) w2.heap.size rfl (.tmp 54) (.tmp 55) 23 48 (.agg #[.int .u16 0, .int .u8 0, .int .i64 0]) 16 rfl Tryd.underlying23 info_mp rfl (by decide) (by decide) _ [mpT ⟨5, 0, 8⟩] (ms.map mpT) A2 n c2 (fun k => w2.heap.size ≤ k) (fun _ => False) rfl rfl (R_one w2 _ (Nat.le_refl _) ⟨5, 0, 8⟩) (HN.out ▸ ms_rows (HM.out.below (below_step HB2.out (below_alloc (Below.refl _ _) _))) (by have := HN.out; omega)) (fun x cs hx => by obtain ⟨_, _, rfl, ⟨_, _, rfl, rfl, rfl⟩, rfl⟩ := hx; exact ⟨_, _, rfl, ⟨_, _, rfl, rfl, rfl⟩, rfl⟩) (fun k hk => hk.elim) (fun k hk => by simp at hk; omega) (below_alloc (Below.refl _ _) _) (by simp) (by simp; omega) ?_; intro v3 w3 hown hb3 hg3 hat3; obtain ⟨A3, c3, rfl, -, hC3⟩ := Kd.R_reads hown; rw [show [mpT ⟨5, 0, 8⟩] ++ ms.map mpT = (⟨5, 0, 8⟩ :: ms : List Mp).map mpT from rfl, List.length_map] at hC3; have HM3 := Aside0.mk (show MsAt w3 A3 gl from HGL.out ▸ ms_of_C (l := ⟨5, 0, 8⟩ :: ms) hC3); have HB3 := Aside0.mk (HB2.out.trans (hb3.mono HB2.out.size)); have HD3 := Aside0.mk (HD.out.below hb3); rw [show ([mpT ⟨5, 0, 8⟩] ++ ms.map mpT).length = 1 + n from by simp [HN.out]; omega]; clear hown hb3 hg3 hat3 hC3)
        | (go_at_call 21; rw [← HGN.out]; refine (mcheck_any w.heap.size _ (some d) gl A3 c3 false w3 ⟨gd, rfl, HD3.out.dict⟩ (HT.out.below HB3.out) HM3.out (by have := HGN.out; omega) HGW.out HG.out.find).mono ?_; rw [HCK.out, HGN.out]; rintro e w4 ⟨rfl, hb4⟩; have HB4 := Aside0.mk (HB3.out.trans (hb4.mono HB3.out.size)); have HM4 := Aside0.mk (HM3.out.below hb4); have HD4 := Aside0.mk (HD3.out.below hb4); clear hb4)
        | (have hgate := HG5.out; clear hgate; go_at_call 27; refine (HU1.out w4 gd bi bs A3 c3 HD4.out HB4.out HM4.out).mono ?_; rintro e w5 ⟨v5, base5, rfl, hbase5, hR5, hb5⟩; have HB5 := Aside0.mk (HB4.out.trans (hb5.mono HB4.out.size)); have HD5 := Aside0.mk (HD4.out.below hb5); obtain ⟨A5, c5, rfl, -, -⟩ := Kd.R_reads hR5; have HR5 := Aside0.mk hR5; rw [HNX.out]; clear hbase5 hR5 hb5 HG5)
        | (go_at_call 27; refine (show Calls _ _ #[_, _, .slice (some ab) 0 0] _ _ from HU2.out w5 gd bi bs (some ab) 0 HD5.out HB5.out (((HBA.out.below HB5.out).cut 1 (by decide) (by rw [HNB.out]; exact hnb4)).2 (by omega))).mono ?_; rintro e w6 ⟨v6, base6, rfl, hbase6, hR6, hb6⟩; have HB6 := Aside0.mk (HB5.out.trans (hb6.mono HB5.out.size)); have HR56 := Aside0.mk (Kd.R_below HR5.out hb6); obtain ⟨A6, c6, rfl, -, -⟩ := Kd.R_reads hR6; have HR6 := Aside0.mk hR6; rw [HNX.out]; clear hbase6 hR6 hb6))
      go_loopw [18] (fun iv wr => ∃ k : Nat, k ≤ nx ∧ iv = .int .i64 k ∧ Aside0 (Below w6.heap.size w6 wr)) (fun iv _ => nx - (intOf iv).toNat)
      case atStart => exact ⟨0, Nat.zero_le _, rfl, ⟨Below.refl _ _⟩⟩
      case round =>
        obtain ⟨k, hk, rfl, HB⟩ := hrel
        by_cases hlt : k < nx
        · have hkx : k < xs.length := by rw [HNX.out]; exact hlt
          have hmem : xs[k]?.getD zVl ∈ xs := by
            rw [List.getElem?_eq_getElem hkx]
            exact List.getElem_mem hkx
          have hok := HOK.out _ hmem
          obtain ⟨g1, cap1, A7, c7, hv1, y0, y1, y2, ha7⟩ := vl_at (Kd.R_below HR56.out HB.out) k hkx hok
          obtain ⟨g2, cap2, A8, c8, hv2, z0, z1, z2, ha8⟩ := vl_at (Kd.R_below HR6.out HB.out) k hkx hok
          rw [HNX.out] at hv1 hv2
          injection hv1 with hv1 _ hv1'
          subst hv1 hv1'
          injection hv2 with hv2 _ hv2'
          subst hv2 hv2'
          generalize xs[k]?.getD zVl = x at *
          obtain ⟨⟨ix, sub⟩, zs⟩ := x
          simp only at y0 y1 y2 z0 z1 z2 ha7 ha8
          have cv7 := fun X hX => str_at (c := c7) (Rd_C ha7.arg.rd) X hX
          have cv8 := fun X hX => str_at (c := c8) (Rd_C ha8.arg.rd) X hX
          have u0 : ∀ X, Below wr.heap.size wr X → X.cell? ⟨g1, k * 3, none⟩ = some (.int .u16 ix) := fun X hX => pw_cell_below hX y0
          have u1 : ∀ X, Below wr.heap.size wr X → X.cell? ⟨g1, k * 3 + 1, none⟩ = some (.int .u8 sub) := fun X hX => pw_cell_below hX y1
          have u2 : ∀ X, Below wr.heap.size wr X → X.cell? ⟨g1, k * 3 + 2, none⟩ = some (.slice A7 zs.length c7) := fun X hX => pw_cell_below hX y2
          have w0 : ∀ X, Below wr.heap.size wr X → X.cell? ⟨g2, k * 3, none⟩ = some (.int .u16 ix) := fun X hX => pw_cell_below hX z0
          have w1' : ∀ X, Below wr.heap.size wr X → X.cell? ⟨g2, k * 3 + 1, none⟩ = some (.int .u8 sub) := fun X hX => pw_cell_below hX z1
          have w2' : ∀ X, Below wr.heap.size wr X → X.cell? ⟨g2, k * 3 + 2, none⟩ = some (.slice A8 zs.length c8) := fun X hX => pw_cell_below hX z2
          have hS0 : Below wr.heap.size wr wr := Below.refl _ _
          have hi1 : (k : Int) < (nx : Int) := by omega
          have hi3 : (0 : Int) ≤ (k : Int) := by omega
          rw [HNX.out] at HR5 HR56 HR6
          clear y0 y1 y2 z0 z1 z2 ha7 ha8 hok hmem hkx
          go_wp2
          go_region_held3 (fun X => Below wr.heap.size wr X) (first | assumption | exact below_step (by assumption) (by assumption) | exact below_drew (by assumption))
            (fail)
          go_wp2
          go_roundw
          case rel => exact ⟨k + 1, by omega, by go_num, ⟨HB.out.drew⟩⟩
          case measure => simp [intOf]; omega
        · obtain rfl : k = nx := by omega
          have HB7 := Aside0.mk (HB6.out.trans (HB.out.mono HB6.out.size))
          go_wp2_with (go_at_call 18; refine (works_any _ (HT.out.below HB7.out)).mono ?_; rintro e w8 ⟨rfl, hb8⟩; have HB8 := Aside0.mk (HB7.out.trans (hb8.mono HB7.out.size)); clear hb8)
          go_ret
          exact ⟨rfl, HB8.out⟩
set_option maxRecDepth 100000 in
set_option maxHeartbeats 4000000 in
theorem gaps_2 (l : List En) (A : Option Addr) (c : Nat) (ms : List Mp) (A2 : Option Addr) (c2 : Nat) (b : List Int) (Ab : Option Addr) (cb : Nat) (q : Int) (w : World) (hE : EsAt w A l) (hwg : ∀ e ∈ l, e.Wg ∧ Byt e.df) (hl : l.length ≤ 140737488355328) (hM : MsAt w A2 ms) (hmw : ∀ m ∈ ms, m.Wf) (hml : ms.length ≤ 140737488355328) (hb : Arg w Ab cb b) (hbl : b.length ≤ 140737488355328) (hq3 : Int.tmod q 3 = 1) (ht : Tbl w) :
    Calls Tryd.prog 5 #[.slice A l.length c, .slice A2 ms.length c2, .slice Ab b.length cb, .int .u8 q] w fun e w' => e = .returned (.bool true) ∧ Below w.heap.size w w' := by
  have HSZ := Aside0.mk (size_es l A c w hE hl (fun e he => (hwg e he).1.name))
  have HT := Aside0.mk ht
  have HE := Aside0.mk hE
  have HM := Aside0.mk hM
  have HMW := Aside0.mk hmw
  have HSM := Aside0.mk fun h => small_wf (l := l) h hwg
  have HBA := Aside0.mk hb
  obtain ⟨s, hs⟩ : ∃ s, szL l 0 = s := ⟨_, rfl⟩
  rw [hs] at HSZ HSM
  obtain ⟨n, hn⟩ : ∃ n, ms.length = n := ⟨_, rfl⟩
  have HN := Aside0.mk hn
  rw [hn] at hml ⊢
  obtain ⟨nl, hnl⟩ : ∃ nl, l.length = nl := ⟨_, rfl⟩
  have HNL := Aside0.mk hnl
  rw [hnl] at HSZ ⊢
  obtain ⟨nb, hnb⟩ : ∃ nb, b.length = nb := ⟨_, rfl⟩
  have HNB := Aside0.mk hnb
  have hcb : nb ≤ cb ∧ cb ≤ 9223372036854775807 := by rw [← hnb]; exact ⟨hb.le, hb.cap⟩
  rw [hnb] at hbl ⊢
  clear hE hM hmw ht hs hn hnl hwg hl hb hnb
  by_cases h1 : 5000 < s
  · go_enter Tryd.func5, Tryd.ntmps5
    go_wp2_with (first
      | (go_at_call 17; refine HSZ.out.mono ?_; rintro e w1 ⟨rfl, hb1⟩; have HB1 := Aside0.mk hb1; clear hb1)
      | (go_at_call 18; refine (works_any _ (HT.out.below HB1.out)).mono ?_; rintro e w4 ⟨rfl, hb4⟩; have HB4 := Aside0.mk (HB1.out.trans (hb4.mono HB1.out.size)); clear hb4))
    go_ret
    exact ⟨rfl, HB4.out⟩
  by_cases h2 : 60 < n
  · go_enter Tryd.func5, Tryd.ntmps5
    go_wp2_with (first
      | (go_at_call 17; refine HSZ.out.mono ?_; rintro e w1 ⟨rfl, hb1⟩; have HB1 := Aside0.mk hb1; clear hb1)
      | (go_at_call 18; refine (works_any _ (HT.out.below HB1.out)).mono ?_; rintro e w4 ⟨rfl, hb4⟩; have HB4 := Aside0.mk (HB1.out.trans (hb4.mono HB1.out.size)); clear hb4))
    go_ret
    exact ⟨rfl, HB4.out⟩
  by_cases h3 : 100 < nb
  · go_enter Tryd.func5, Tryd.ntmps5
    go_wp2_with (first
      | (go_at_call 17; refine HSZ.out.mono ?_; rintro e w1 ⟨rfl, hb1⟩; have HB1 := Aside0.mk hb1; clear hb1)
      | (go_at_call 18; refine (works_any _ (HT.out.below HB1.out)).mono ?_; rintro e w4 ⟨rfl, hb4⟩; have HB4 := Aside0.mk (HB1.out.trans (hb4.mono HB1.out.size)); clear hb4))
    go_ret
    exact ⟨rfl, HB4.out⟩
  have hwf := HSM.out (by omega)
  have HWF := Aside0.mk hwf
  rcases newR_form hwf with ⟨r, hr, hr0⟩ | ⟨d, hr, hd⟩
  · have HR := Aside0.mk hr
    have q1 : (r == 0) = false := by simpa using hr0
    have q2 : (r != 0) = true := by simpa using hr0
    clear hr hwf
    go_enter Tryd.func5, Tryd.ntmps5
    go_wp2_with (first
      | (go_at_call 17; refine HSZ.out.mono ?_; rintro e w1 ⟨rfl, hb1⟩; have HB1 := Aside0.mk hb1; clear hb1)
      | (go_at_call 19; rw [← HNL.out]; refine (new_all w.heap.size l A c w1 (HE.out.below HB1.out) (fun e he => (HWF.out e he).1) (HT.out.below HB1.out) HB1.out.size _ HR.out).mono ?_; rw [HNL.out]; rintro e w2 ⟨hb2, rfl⟩; have HB2 := Aside0.mk (HB1.out.trans (hb2.mono HB1.out.size)); clear hb2)
      | (go_at_call 18; refine (works_any _ (HT.out.below HB2.out)).mono ?_; rintro e w4 ⟨rfl, hb4⟩; have HB4 := Aside0.mk (HB2.out.trans (hb4.mono HB2.out.size)); clear hb4))
    go_ret
    exact ⟨rfl, HB4.out⟩
  have HR := Aside0.mk hr
  have HG := Aside0.mk hd
  clear hr hd hwf
  have hgm : Mp.Wf ⟨6, 0, 16⟩ := ⟨by decide, by decide, by decide⟩
  have hggap : gapC ⟨6, 0, 16⟩ := by decide
  obtain ⟨gl, hgl⟩ : ∃ gl : List Mp, ⟨6, 0, 16⟩ :: ms = gl := ⟨_, rfl⟩
  have HGL := Aside0.mk hgl
  have HGW := Aside0.mk (show ∀ m ∈ gl, m.Wf from fun m hm => by
    rw [← hgl] at hm
    rcases List.mem_cons.1 hm with rfl | hm
    · exact hgm
    · exact HMW.out m hm)
  have hgn : gl.length = 1 + n := by rw [← hgl, List.length_cons, HN.out]; omega
  have HGN := Aside0.mk hgn
  obtain ⟨ck, hck⟩ : ∃ ck, checkC (some d) gl false = ck := ⟨_, rfl⟩
  have HCK := Aside0.mk hck
  clear hck hgn hgl hgm
  by_cases hc : ck = 0 ∧ 2 ≤ nb
  case neg =>
    go_enter Tryd.func5, Tryd.ntmps5
    go_wp2_with (first
      | (go_at_call 17; refine HSZ.out.mono ?_; rintro e w1 ⟨rfl, hb1⟩; have HB1 := Aside0.mk hb1; clear hb1)
      | (go_at_call 19; rw [← HNL.out]; refine (new_all w.heap.size l A c w1 (HE.out.below HB1.out) (fun e he => (HWF.out e he).1) (HT.out.below HB1.out) HB1.out.size _ HR.out).mono ?_; rw [HNL.out]; rintro e w2 ⟨hb2, gd, bi, bs, rfl, hg, hbi, hbs, hD⟩; have HB2 := Aside0.mk (HB1.out.trans (hb2.mono HB1.out.size)); have HD := Aside0.mk hD; clear hb2 hD hg hbi hbs)
      | ((with_reducible refine gate_builtin (b := .append) (xs := #[.tmp 54, .tmp 55]) rfl ?_); at_builtin; refine Kd.R_append_rows kM (Rr := fun x cs => kM.K w2 x cs) (w0 := w2) w2.heap.size rfl (.tmp 54) (.tmp 55) 23 48 (.agg #[.int .u16 0, .int .u8 0, .int .i64 0]) 16 rfl Tryd.underlying23 info_mp rfl (by decide) (by decide) _ [mpT ⟨6, 0, 16⟩] (ms.map mpT) A2 n c2 (fun k => w2.heap.size ≤ k) (fun _ => False) rfl rfl (R_one w2 _ (Nat.le_refl _) ⟨6, 0, 16⟩) (HN.out ▸ ms_rows (HM.out.below (below_step HB2.out (below_alloc (Below.refl _ _) _))) (by have := HN.out; omega)) (fun x cs hx => by obtain ⟨_, _, rfl, ⟨_, _, rfl, rfl, rfl⟩, rfl⟩ := hx; exact ⟨_, _, rfl, ⟨_, _, rfl, rfl, rfl⟩, rfl⟩) (fun k hk => hk.elim) (fun k hk => by simp at hk; omega) (below_alloc (Below.refl _ _) _) (by simp) (by simp; omega) ?_; intro v3 w3 hown hb3 hg3 hat3; obtain ⟨A3, c3, rfl, -, hC3⟩ := Kd.R_reads hown; rw [show [mpT ⟨6, 0, 16⟩] ++ ms.map mpT = (⟨6, 0, 16⟩ :: ms : List Mp).map mpT from rfl, List.length_map] at hC3; have HM3 := Aside0.mk (show MsAt w3 A3 gl from HGL.out ▸ ms_of_C (l := ⟨6, 0, 16⟩ :: ms) hC3); have HB3 := Aside0.mk (HB2.out.trans (hb3.mono HB2.out.size)); have HD3 := Aside0.mk (HD.out.below hb3); rw [show ([mpT ⟨6, 0, 16⟩] ++ ms.map mpT).length = 1 + n from by simp [HN.out]; omega]; clear hown hb3 hg3 hat3 hC3)
      | (go_at_call 21; rw [← HGN.out]; refine (mcheck_any w.heap.size _ (some d) gl A3 c3 false w3 ⟨gd, rfl, HD3.out.dict⟩ (HT.out.below HB3.out) HM3.out (by have := HGN.out; omega) HGW.out HG.out.find).mono ?_; rw [HCK.out, HGN.out]; rintro e w4 ⟨rfl, hb4⟩; have HB4 := Aside0.mk (HB3.out.trans (hb4.mono HB3.out.size)); have HM4 := Aside0.mk (HM3.out.below hb4); have HD4 := Aside0.mk (HD3.out.below hb4); clear hb4)
      | (go_at_call 18; refine (works_any _ (HT.out.below HB4.out)).mono ?_; rintro e w5 ⟨rfl, hb5⟩; have HB5 := Aside0.mk (HB4.out.trans (hb5.mono HB4.out.size)); clear hb5))
    all_goals
      go_ret
      exact ⟨rfl, HB5.out⟩
  case pos =>
    obtain ⟨rfl, hnb4⟩ := hc
    have HUG := Aside0.mk (unpack_gap d ⟨6, 0, 16⟩ ms b 2 hggap rfl (by rw [HNB.out]; exact hnb4) (by rw [HGL.out]; exact HCK.out))
    rw [HGL.out] at HUG
    obtain ⟨⟨xs, tt⟩, hxt⟩ : ∃ r, unpackC (some d) ms (b.drop 2) = r := ⟨_, rfl⟩
    rw [hxt] at HUG
    have HUM := Aside0.mk hxt
    obtain ⟨hok, hxl⟩ := unpack_ok (o := some d) (b := b.drop 2) HMW.out
    rw [hxt] at hok hxl
    rw [HN.out] at hxl
    have HOK := Aside0.mk hok
    obtain ⟨ab, rfl⟩ : ∃ ab, Ab = some ab := by
      obtain ⟨ab, e, -⟩ := HBA.out.rd.2 (by rw [HNB.out]; omega)
      exact ⟨ab, e⟩
    obtain ⟨nx, hnx⟩ : ∃ nx, xs.length = nx := ⟨_, rfl⟩
    have HNX := Aside0.mk hnx
    simp only at hxl
    rw [hnx] at hxl
    have HDR := Aside0.mk (show (b.drop 2).length = nb - 2 by rw [List.length_drop, HNB.out])
    have HG5 := Aside0.mk True.intro
    have HU1 := Aside0.mk fun (W : World) (gd bi bs : Nat) (A' : Option Addr) (c' : Nat) (h1 : DictB w.heap.size W gd bi bs d) (h2 : Below w.heap.size w W) (h3 : MsAt W A' gl) => (show Calls Tryd.prog 27 #[.pointer (some ⟨gd, 0, none⟩), .slice A' (1 + n) c', .slice (some ab) nb cb] W (UnpSaid W (xs, tt)) by
      have h := unpack_any w.heap.size (.pointer (some ⟨gd, 0, none⟩)) (some d) gl A' c' (some ab) cb b W ⟨gd, rfl, h1.dict⟩ (HT.out.below h2) h3 (by have := HGN.out; omega) HGW.out HG.out.find (HBA.out.below h2)
      rw [HUG.out, HGN.out, HNB.out] at h
      exact h)
    have HU2 := Aside0.mk fun (W : World) (gd bi bs : Nat) (A' : Option Addr) (c' : Nat) (h1 : DictB w.heap.size W gd bi bs d) (h2 : Below w.heap.size w W) (h3 : Arg W A' c' (b.drop 2)) => (show Calls Tryd.prog 27 #[.pointer (some ⟨gd, 0, none⟩), .slice A2 n c2, .slice A' (nb - 2) c'] W (UnpSaid W (xs, tt)) by
      have h := unpack_any w.heap.size (.pointer (some ⟨gd, 0, none⟩)) (some d) ms A2 c2 A' c' (b.drop 2) W ⟨gd, rfl, h1.dict⟩ (HT.out.below h2) (HM.out.below h2) (by have := HN.out; omega) HMW.out HG.out.find h3
      rw [HUM.out, HN.out, HDR.out] at h
      exact h)
    clear hxt hok hnx
    by_cases hcn : 2 < cb
    · go_enter Tryd.func5, Tryd.ntmps5
      go_wp2_with (first
        | (go_at_call 17; refine HSZ.out.mono ?_; rintro e w1 ⟨rfl, hb1⟩; have HB1 := Aside0.mk hb1; clear hb1)
        | (go_at_call 19; rw [← HNL.out]; refine (new_all w.heap.size l A c w1 (HE.out.below HB1.out) (fun e he => (HWF.out e he).1) (HT.out.below HB1.out) HB1.out.size _ HR.out).mono ?_; rw [HNL.out]; rintro e w2 ⟨hb2, gd, bi, bs, rfl, hg, hbi, hbs, hD⟩; have HB2 := Aside0.mk (HB1.out.trans (hb2.mono HB1.out.size)); have HD := Aside0.mk hD; clear hb2 hD hg hbi hbs)
        | ((with_reducible refine gate_builtin (b := .append) (xs := #[.tmp 54, .tmp 55]) rfl ?_); at_builtin; refine Kd.R_append_rows kM (Rr := fun x cs => kM.K w2 x cs) (w0 := w2) w2.heap.size rfl (.tmp 54) (.tmp 55) 23 48 (.agg #[.int .u16 0, .int .u8 0, .int .i64 0]) 16 rfl Tryd.underlying23 info_mp rfl (by decide) (by decide) _ [mpT ⟨6, 0, 16⟩] (ms.map mpT) A2 n c2 (fun k => w2.heap.size ≤ k) (fun _ => False) rfl rfl (R_one w2 _ (Nat.le_refl _) ⟨6, 0, 16⟩) (HN.out ▸ ms_rows (HM.out.below (below_step HB2.out (below_alloc (Below.refl _ _) _))) (by have := HN.out; omega)) (fun x cs hx => by obtain ⟨_, _, rfl, ⟨_, _, rfl, rfl, rfl⟩, rfl⟩ := hx; exact ⟨_, _, rfl, ⟨_, _, rfl, rfl, rfl⟩, rfl⟩) (fun k hk => hk.elim) (fun k hk => by simp at hk; omega) (below_alloc (Below.refl _ _) _) (by simp) (by simp; omega) ?_; intro v3 w3 hown hb3 hg3 hat3; obtain ⟨A3, c3, rfl, -, hC3⟩ := Kd.R_reads hown; rw [show [mpT ⟨6, 0, 16⟩] ++ ms.map mpT = (⟨6, 0, 16⟩ :: ms : List Mp).map mpT from rfl, List.length_map] at hC3; have HM3 := Aside0.mk (show MsAt w3 A3 gl from HGL.out ▸ ms_of_C (l := ⟨6, 0, 16⟩ :: ms) hC3); have HB3 := Aside0.mk (HB2.out.trans (hb3.mono HB2.out.size)); have HD3 := Aside0.mk (HD.out.below hb3); rw [show ([mpT ⟨6, 0, 16⟩] ++ ms.map mpT).length = 1 + n from by simp [HN.out]; omega]; clear hown hb3 hg3 hat3 hC3)
        | (go_at_call 21; rw [← HGN.out]; refine (mcheck_any w.heap.size _ (some d) gl A3 c3 false w3 ⟨gd, rfl, HD3.out.dict⟩ (HT.out.below HB3.out) HM3.out (by have := HGN.out; omega) HGW.out HG.out.find).mono ?_; rw [HCK.out, HGN.out]; rintro e w4 ⟨rfl, hb4⟩; have HB4 := Aside0.mk (HB3.out.trans (hb4.mono HB3.out.size)); have HM4 := Aside0.mk (HM3.out.below hb4); have HD4 := Aside0.mk (HD3.out.below hb4); clear hb4)
        | (have hgate := HG5.out; clear hgate; go_at_call 27; refine (HU1.out w4 gd bi bs A3 c3 HD4.out HB4.out HM4.out).mono ?_; rintro e w5 ⟨v5, base5, rfl, hbase5, hR5, hb5⟩; have HB5 := Aside0.mk (HB4.out.trans (hb5.mono HB4.out.size)); have HD5 := Aside0.mk (HD4.out.below hb5); obtain ⟨A5, c5, rfl, -, -⟩ := Kd.R_reads hR5; have HR5 := Aside0.mk hR5; rw [HNX.out]; clear hbase5 hR5 hb5 HG5)
        | (go_at_call 27; refine (HU2.out w5 gd bi bs (some ⟨ab.block, ab.off + 2, none⟩) (cb - 2) HD5.out HB5.out ((HBA.out.below HB5.out).cut 2 (by decide) (by rw [HNB.out]; exact hnb4)).1).mono ?_; rintro e w6 ⟨v6, base6, rfl, hbase6, hR6, hb6⟩; have HB6 := Aside0.mk (HB5.out.trans (hb6.mono HB5.out.size)); have HR56 := Aside0.mk (Kd.R_below HR5.out hb6); obtain ⟨A6, c6, rfl, -, -⟩ := Kd.R_reads hR6; have HR6 := Aside0.mk hR6; rw [HNX.out]; clear hbase6 hR6 hb6))
      go_loopw [18] (fun iv wr => ∃ k : Nat, k ≤ nx ∧ iv = .int .i64 k ∧ Aside0 (Below w6.heap.size w6 wr)) (fun iv _ => nx - (intOf iv).toNat)
      case atStart => exact ⟨0, Nat.zero_le _, rfl, ⟨Below.refl _ _⟩⟩
      case round =>
        obtain ⟨k, hk, rfl, HB⟩ := hrel
        by_cases hlt : k < nx
        · have hkx : k < xs.length := by rw [HNX.out]; exact hlt
          have hmem : xs[k]?.getD zVl ∈ xs := by
            rw [List.getElem?_eq_getElem hkx]
            exact List.getElem_mem hkx
          have hok := HOK.out _ hmem
          obtain ⟨g1, cap1, A7, c7, hv1, y0, y1, y2, ha7⟩ := vl_at (Kd.R_below HR56.out HB.out) k hkx hok
          obtain ⟨g2, cap2, A8, c8, hv2, z0, z1, z2, ha8⟩ := vl_at (Kd.R_below HR6.out HB.out) k hkx hok
          rw [HNX.out] at hv1 hv2
          injection hv1 with hv1 _ hv1'
          subst hv1 hv1'
          injection hv2 with hv2 _ hv2'
          subst hv2 hv2'
          generalize xs[k]?.getD zVl = x at *
          obtain ⟨⟨ix, sub⟩, zs⟩ := x
          simp only at y0 y1 y2 z0 z1 z2 ha7 ha8
          have cv7 := fun X hX => str_at (c := c7) (Rd_C ha7.arg.rd) X hX
          have cv8 := fun X hX => str_at (c := c8) (Rd_C ha8.arg.rd) X hX
          have u0 : ∀ X, Below wr.heap.size wr X → X.cell? ⟨g1, k * 3, none⟩ = some (.int .u16 ix) := fun X hX => pw_cell_below hX y0
          have u1 : ∀ X, Below wr.heap.size wr X → X.cell? ⟨g1, k * 3 + 1, none⟩ = some (.int .u8 sub) := fun X hX => pw_cell_below hX y1
          have u2 : ∀ X, Below wr.heap.size wr X → X.cell? ⟨g1, k * 3 + 2, none⟩ = some (.slice A7 zs.length c7) := fun X hX => pw_cell_below hX y2
          have w0 : ∀ X, Below wr.heap.size wr X → X.cell? ⟨g2, k * 3, none⟩ = some (.int .u16 ix) := fun X hX => pw_cell_below hX z0
          have w1' : ∀ X, Below wr.heap.size wr X → X.cell? ⟨g2, k * 3 + 1, none⟩ = some (.int .u8 sub) := fun X hX => pw_cell_below hX z1
          have w2' : ∀ X, Below wr.heap.size wr X → X.cell? ⟨g2, k * 3 + 2, none⟩ = some (.slice A8 zs.length c8) := fun X hX => pw_cell_below hX z2
          have hS0 : Below wr.heap.size wr wr := Below.refl _ _
          have hi1 : (k : Int) < (nx : Int) := by omega
          have hi3 : (0 : Int) ≤ (k : Int) := by omega
          rw [HNX.out] at HR5 HR56 HR6
          clear y0 y1 y2 z0 z1 z2 ha7 ha8 hok hmem hkx
          go_wp2
          go_region_held3 (fun X => Below wr.heap.size wr X) (first | assumption | exact below_step (by assumption) (by assumption) | exact below_drew (by assumption))
            (fail)
          go_wp2
          go_roundw
          case rel => exact ⟨k + 1, by omega, by go_num, ⟨HB.out.drew⟩⟩
          case measure => simp [intOf]; omega
        · obtain rfl : k = nx := by omega
          have HB7 := Aside0.mk (HB6.out.trans (HB.out.mono HB6.out.size))
          go_wp2_with (go_at_call 18; refine (works_any _ (HT.out.below HB7.out)).mono ?_; rintro e w8 ⟨rfl, hb8⟩; have HB8 := Aside0.mk (HB7.out.trans (hb8.mono HB7.out.size)); clear hb8)
          go_ret
          exact ⟨rfl, HB8.out⟩
    · obtain rfl : cb = 2 := by omega
      obtain rfl : nb = 2 := by omega
      go_enter Tryd.func5, Tryd.ntmps5
      go_wp2_with (first
        | (go_at_call 17; refine HSZ.out.mono ?_; rintro e w1 ⟨rfl, hb1⟩; have HB1 := Aside0.mk hb1; clear hb1)
        | (go_at_call 19; rw [← HNL.out]; refine (new_all w.heap.size l A c w1 (HE.out.below HB1.out) (fun e he => (HWF.out e he).1) (HT.out.below HB1.out) HB1.out.size _ HR.out).mono ?_; rw [HNL.out]; rintro e w2 ⟨hb2, gd, bi, bs, rfl, hg, hbi, hbs, hD⟩; have HB2 := Aside0.mk (HB1.out.trans (hb2.mono HB1.out.size)); have HD := Aside0.mk hD; clear hb2 hD hg hbi hbs)
        | ((with_reducible refine gate_builtin (b := .append) (xs := #[.tmp 54, .tmp 55]) rfl ?_); at_builtin; refine Kd.R_append_rows kM (Rr := fun x cs => kM.K w2 x cs) (w0 := w2) w2.heap.size rfl (.tmp 54) (.tmp 55) 23 48 (.agg #[.int .u16 0, .int .u8 0, .int .i64 0]) 16 rfl Tryd.underlying23 info_mp rfl (by decide) (by decide) _ [mpT ⟨6, 0, 16⟩] (ms.map mpT) A2 n c2 (fun k => w2.heap.size ≤ k) (fun _ => False) rfl rfl (R_one w2 _ (Nat.le_refl _) ⟨6, 0, 16⟩) (HN.out ▸ ms_rows (HM.out.below (below_step HB2.out (below_alloc (Below.refl _ _) _))) (by have := HN.out; omega)) (fun x cs hx => by obtain ⟨_, _, rfl, ⟨_, _, rfl, rfl, rfl⟩, rfl⟩ := hx; exact ⟨_, _, rfl, ⟨_, _, rfl, rfl, rfl⟩, rfl⟩) (fun k hk => hk.elim) (fun k hk => by simp at hk; omega) (below_alloc (Below.refl _ _) _) (by simp) (by simp; omega) ?_; intro v3 w3 hown hb3 hg3 hat3; obtain ⟨A3, c3, rfl, -, hC3⟩ := Kd.R_reads hown; rw [show [mpT ⟨6, 0, 16⟩] ++ ms.map mpT = (⟨6, 0, 16⟩ :: ms : List Mp).map mpT from rfl, List.length_map] at hC3; have HM3 := Aside0.mk (show MsAt w3 A3 gl from HGL.out ▸ ms_of_C (l := ⟨6, 0, 16⟩ :: ms) hC3); have HB3 := Aside0.mk (HB2.out.trans (hb3.mono HB2.out.size)); have HD3 := Aside0.mk (HD.out.below hb3); rw [show ([mpT ⟨6, 0, 16⟩] ++ ms.map mpT).length = 1 + n from by simp [HN.out]; omega]; clear hown hb3 hg3 hat3 hC3)
        | (go_at_call 21; rw [← HGN.out]; refine (mcheck_any w.heap.size _ (some d) gl A3 c3 false w3 ⟨gd, rfl, HD3.out.dict⟩ (HT.out.below HB3.out) HM3.out (by have := HGN.out; omega) HGW.out HG.out.find).mono ?_; rw [HCK.out, HGN.out]; rintro e w4 ⟨rfl, hb4⟩; have HB4 := Aside0.mk (HB3.out.trans (hb4.mono HB3.out.size)); have HM4 := Aside0.mk (HM3.out.below hb4); have HD4 := Aside0.mk (HD3.out.below hb4); clear hb4)
        | (have hgate := HG5.out; clear hgate; go_at_call 27; refine (HU1.out w4 gd bi bs A3 c3 HD4.out HB4.out HM4.out).mono ?_; rintro e w5 ⟨v5, base5, rfl, hbase5, hR5, hb5⟩; have HB5 := Aside0.mk (HB4.out.trans (hb5.mono HB4.out.size)); have HD5 := Aside0.mk (HD4.out.below hb5); obtain ⟨A5, c5, rfl, -, -⟩ := Kd.R_reads hR5; have HR5 := Aside0.mk hR5; rw [HNX.out]; clear hbase5 hR5 hb5 HG5)
        | (go_at_call 27; refine (show Calls _ _ #[_, _, .slice (some ab) 0 0] _ _ from HU2.out w5 gd bi bs (some ab) 0 HD5.out HB5.out (((HBA.out.below HB5.out).cut 2 (by decide) (by rw [HNB.out]; exact hnb4)).2 (by omega))).mono ?_; rintro e w6 ⟨v6, base6, rfl, hbase6, hR6, hb6⟩; have HB6 := Aside0.mk (HB5.out.trans (hb6.mono HB5.out.size)); have HR56 := Aside0.mk (Kd.R_below HR5.out hb6); obtain ⟨A6, c6, rfl, -, -⟩ := Kd.R_reads hR6; have HR6 := Aside0.mk hR6; rw [HNX.out]; clear hbase6 hR6 hb6))
      go_loopw [18] (fun iv wr => ∃ k : Nat, k ≤ nx ∧ iv = .int .i64 k ∧ Aside0 (Below w6.heap.size w6 wr)) (fun iv _ => nx - (intOf iv).toNat)
      case atStart => exact ⟨0, Nat.zero_le _, rfl, ⟨Below.refl _ _⟩⟩
      case round =>
        obtain ⟨k, hk, rfl, HB⟩ := hrel
        by_cases hlt : k < nx
        · have hkx : k < xs.length := by rw [HNX.out]; exact hlt
          have hmem : xs[k]?.getD zVl ∈ xs := by
            rw [List.getElem?_eq_getElem hkx]
            exact List.getElem_mem hkx
          have hok := HOK.out _ hmem
          obtain ⟨g1, cap1, A7, c7, hv1, y0, y1, y2, ha7⟩ := vl_at (Kd.R_below HR56.out HB.out) k hkx hok
          obtain ⟨g2, cap2, A8, c8, hv2, z0, z1, z2, ha8⟩ := vl_at (Kd.R_below HR6.out HB.out) k hkx hok
          rw [HNX.out] at hv1 hv2
          injection hv1 with hv1 _ hv1'
          subst hv1 hv1'
          injection hv2 with hv2 _ hv2'
          subst hv2 hv2'
          generalize xs[k]?.getD zVl = x at *
          obtain ⟨⟨ix, sub⟩, zs⟩ := x
          simp only at y0 y1 y2 z0 z1 z2 ha7 ha8
          have cv7 := fun X hX => str_at (c := c7) (Rd_C ha7.arg.rd) X hX
          have cv8 := fun X hX => str_at (c := c8) (Rd_C ha8.arg.rd) X hX
          have u0 : ∀ X, Below wr.heap.size wr X → X.cell? ⟨g1, k * 3, none⟩ = some (.int .u16 ix) := fun X hX => pw_cell_below hX y0
          have u1 : ∀ X, Below wr.heap.size wr X → X.cell? ⟨g1, k * 3 + 1, none⟩ = some (.int .u8 sub) := fun X hX => pw_cell_below hX y1
          have u2 : ∀ X, Below wr.heap.size wr X → X.cell? ⟨g1, k * 3 + 2, none⟩ = some (.slice A7 zs.length c7) := fun X hX => pw_cell_below hX y2
          have w0 : ∀ X, Below wr.heap.size wr X → X.cell? ⟨g2, k * 3, none⟩ = some (.int .u16 ix) := fun X hX => pw_cell_below hX z0
          have w1' : ∀ X, Below wr.heap.size wr X → X.cell? ⟨g2, k * 3 + 1, none⟩ = some (.int .u8 sub) := fun X hX => pw_cell_below hX z1
          have w2' : ∀ X, Below wr.heap.size wr X → X.cell? ⟨g2, k * 3 + 2, none⟩ = some (.slice A8 zs.length c8) := fun X hX => pw_cell_below hX z2
          have hS0 : Below wr.heap.size wr wr := Below.refl _ _
          have hi1 : (k : Int) < (nx : Int) := by omega
          have hi3 : (0 : Int) ≤ (k : Int) := by omega
          rw [HNX.out] at HR5 HR56 HR6
          clear y0 y1 y2 z0 z1 z2 ha7 ha8 hok hmem hkx
          go_wp2
          go_region_held3 (fun X => Below wr.heap.size wr X) (first | assumption | exact below_step (by assumption) (by assumption) | exact below_drew (by assumption))
            (fail)
          go_wp2
          go_roundw
          case rel => exact ⟨k + 1, by omega, by go_num, ⟨HB.out.drew⟩⟩
          case measure => simp [intOf]; omega
        · obtain rfl : k = nx := by omega
          have HB7 := Aside0.mk (HB6.out.trans (HB.out.mono HB6.out.size))
          go_wp2_with (go_at_call 18; refine (works_any _ (HT.out.below HB7.out)).mono ?_; rintro e w8 ⟨rfl, hb8⟩; have HB8 := Aside0.mk (HB7.out.trans (hb8.mono HB7.out.size)); clear hb8)
          go_ret
          exact ⟨rfl, HB8.out⟩
set_option maxRecDepth 100000 in
set_option maxHeartbeats 4000000 in
theorem gaps_4 (l : List En) (A : Option Addr) (c : Nat) (ms : List Mp) (A2 : Option Addr) (c2 : Nat) (b : List Int) (Ab : Option Addr) (cb : Nat) (q : Int) (w : World) (hE : EsAt w A l) (hwg : ∀ e ∈ l, e.Wg ∧ Byt e.df) (hl : l.length ≤ 140737488355328) (hM : MsAt w A2 ms) (hmw : ∀ m ∈ ms, m.Wf) (hml : ms.length ≤ 140737488355328) (hb : Arg w Ab cb b) (hbl : b.length ≤ 140737488355328) (hq3 : Int.tmod q 3 = 2) (ht : Tbl w) :
    Calls Tryd.prog 5 #[.slice A l.length c, .slice A2 ms.length c2, .slice Ab b.length cb, .int .u8 q] w fun e w' => e = .returned (.bool true) ∧ Below w.heap.size w w' := by
  have HSZ := Aside0.mk (size_es l A c w hE hl (fun e he => (hwg e he).1.name))
  have HT := Aside0.mk ht
  have HE := Aside0.mk hE
  have HM := Aside0.mk hM
  have HMW := Aside0.mk hmw
  have HSM := Aside0.mk fun h => small_wf (l := l) h hwg
  have HBA := Aside0.mk hb
  obtain ⟨s, hs⟩ : ∃ s, szL l 0 = s := ⟨_, rfl⟩
  rw [hs] at HSZ HSM
  obtain ⟨n, hn⟩ : ∃ n, ms.length = n := ⟨_, rfl⟩
  have HN := Aside0.mk hn
  rw [hn] at hml ⊢
  obtain ⟨nl, hnl⟩ : ∃ nl, l.length = nl := ⟨_, rfl⟩
  have HNL := Aside0.mk hnl
  rw [hnl] at HSZ ⊢
  obtain ⟨nb, hnb⟩ : ∃ nb, b.length = nb := ⟨_, rfl⟩
  have HNB := Aside0.mk hnb
  have hcb : nb ≤ cb ∧ cb ≤ 9223372036854775807 := by rw [← hnb]; exact ⟨hb.le, hb.cap⟩
  rw [hnb] at hbl ⊢
  clear hE hM hmw ht hs hn hnl hwg hl hb hnb
  by_cases h1 : 5000 < s
  · go_enter Tryd.func5, Tryd.ntmps5
    go_wp2_with (first
      | (go_at_call 17; refine HSZ.out.mono ?_; rintro e w1 ⟨rfl, hb1⟩; have HB1 := Aside0.mk hb1; clear hb1)
      | (go_at_call 18; refine (works_any _ (HT.out.below HB1.out)).mono ?_; rintro e w4 ⟨rfl, hb4⟩; have HB4 := Aside0.mk (HB1.out.trans (hb4.mono HB1.out.size)); clear hb4))
    go_ret
    exact ⟨rfl, HB4.out⟩
  by_cases h2 : 60 < n
  · go_enter Tryd.func5, Tryd.ntmps5
    go_wp2_with (first
      | (go_at_call 17; refine HSZ.out.mono ?_; rintro e w1 ⟨rfl, hb1⟩; have HB1 := Aside0.mk hb1; clear hb1)
      | (go_at_call 18; refine (works_any _ (HT.out.below HB1.out)).mono ?_; rintro e w4 ⟨rfl, hb4⟩; have HB4 := Aside0.mk (HB1.out.trans (hb4.mono HB1.out.size)); clear hb4))
    go_ret
    exact ⟨rfl, HB4.out⟩
  by_cases h3 : 100 < nb
  · go_enter Tryd.func5, Tryd.ntmps5
    go_wp2_with (first
      | (go_at_call 17; refine HSZ.out.mono ?_; rintro e w1 ⟨rfl, hb1⟩; have HB1 := Aside0.mk hb1; clear hb1)
      | (go_at_call 18; refine (works_any _ (HT.out.below HB1.out)).mono ?_; rintro e w4 ⟨rfl, hb4⟩; have HB4 := Aside0.mk (HB1.out.trans (hb4.mono HB1.out.size)); clear hb4))
    go_ret
    exact ⟨rfl, HB4.out⟩
  have hwf := HSM.out (by omega)
  have HWF := Aside0.mk hwf
  rcases newR_form hwf with ⟨r, hr, hr0⟩ | ⟨d, hr, hd⟩
  · have HR := Aside0.mk hr
    have q1 : (r == 0) = false := by simpa using hr0
    have q2 : (r != 0) = true := by simpa using hr0
    clear hr hwf
    go_enter Tryd.func5, Tryd.ntmps5
    go_wp2_with (first
      | (go_at_call 17; refine HSZ.out.mono ?_; rintro e w1 ⟨rfl, hb1⟩; have HB1 := Aside0.mk hb1; clear hb1)
      | (go_at_call 19; rw [← HNL.out]; refine (new_all w.heap.size l A c w1 (HE.out.below HB1.out) (fun e he => (HWF.out e he).1) (HT.out.below HB1.out) HB1.out.size _ HR.out).mono ?_; rw [HNL.out]; rintro e w2 ⟨hb2, rfl⟩; have HB2 := Aside0.mk (HB1.out.trans (hb2.mono HB1.out.size)); clear hb2)
      | (go_at_call 18; refine (works_any _ (HT.out.below HB2.out)).mono ?_; rintro e w4 ⟨rfl, hb4⟩; have HB4 := Aside0.mk (HB2.out.trans (hb4.mono HB2.out.size)); clear hb4))
    go_ret
    exact ⟨rfl, HB4.out⟩
  have HR := Aside0.mk hr
  have HG := Aside0.mk hd
  clear hr hd hwf
  have hgm : Mp.Wf ⟨7, 0, 32⟩ := ⟨by decide, by decide, by decide⟩
  have hggap : gapC ⟨7, 0, 32⟩ := by decide
  obtain ⟨gl, hgl⟩ : ∃ gl : List Mp, ⟨7, 0, 32⟩ :: ms = gl := ⟨_, rfl⟩
  have HGL := Aside0.mk hgl
  have HGW := Aside0.mk (show ∀ m ∈ gl, m.Wf from fun m hm => by
    rw [← hgl] at hm
    rcases List.mem_cons.1 hm with rfl | hm
    · exact hgm
    · exact HMW.out m hm)
  have hgn : gl.length = 1 + n := by rw [← hgl, List.length_cons, HN.out]; omega
  have HGN := Aside0.mk hgn
  obtain ⟨ck, hck⟩ : ∃ ck, checkC (some d) gl false = ck := ⟨_, rfl⟩
  have HCK := Aside0.mk hck
  clear hck hgn hgl hgm
  by_cases hc : ck = 0 ∧ 4 ≤ nb
  case neg =>
    go_enter Tryd.func5, Tryd.ntmps5
    go_wp2_with (first
      | (go_at_call 17; refine HSZ.out.mono ?_; rintro e w1 ⟨rfl, hb1⟩; have HB1 := Aside0.mk hb1; clear hb1)
      | (go_at_call 19; rw [← HNL.out]; refine (new_all w.heap.size l A c w1 (HE.out.below HB1.out) (fun e he => (HWF.out e he).1) (HT.out.below HB1.out) HB1.out.size _ HR.out).mono ?_; rw [HNL.out]; rintro e w2 ⟨hb2, gd, bi, bs, rfl, hg, hbi, hbs, hD⟩; have HB2 := Aside0.mk (HB1.out.trans (hb2.mono HB1.out.size)); have HD := Aside0.mk hD; clear hb2 hD hg hbi hbs)
      | ((with_reducible refine gate_builtin (b := .append) (xs := #[.tmp 54, .tmp 55]) rfl ?_); at_builtin; refine Kd.R_append_rows kM (Rr := fun x cs => kM.K w2 x cs) (w0 := w2) w2.heap.size rfl (.tmp 54) (.tmp 55) 23 48 (.agg #[.int .u16 0, .int .u8 0, .int .i64 0]) 16 rfl Tryd.underlying23 info_mp rfl (by decide) (by decide) _ [mpT ⟨7, 0, 32⟩] (ms.map mpT) A2 n c2 (fun k => w2.heap.size ≤ k) (fun _ => False) rfl rfl (R_one w2 _ (Nat.le_refl _) ⟨7, 0, 32⟩) (HN.out ▸ ms_rows (HM.out.below (below_step HB2.out (below_alloc (Below.refl _ _) _))) (by have := HN.out; omega)) (fun x cs hx => by obtain ⟨_, _, rfl, ⟨_, _, rfl, rfl, rfl⟩, rfl⟩ := hx; exact ⟨_, _, rfl, ⟨_, _, rfl, rfl, rfl⟩, rfl⟩) (fun k hk => hk.elim) (fun k hk => by simp at hk; omega) (below_alloc (Below.refl _ _) _) (by simp) (by simp; omega) ?_; intro v3 w3 hown hb3 hg3 hat3; obtain ⟨A3, c3, rfl, -, hC3⟩ := Kd.R_reads hown; rw [show [mpT ⟨7, 0, 32⟩] ++ ms.map mpT = (⟨7, 0, 32⟩ :: ms : List Mp).map mpT from rfl, List.length_map] at hC3; have HM3 := Aside0.mk (show MsAt w3 A3 gl from HGL.out ▸ ms_of_C (l := ⟨7, 0, 32⟩ :: ms) hC3); have HB3 := Aside0.mk (HB2.out.trans (hb3.mono HB2.out.size)); have HD3 := Aside0.mk (HD.out.below hb3); rw [show ([mpT ⟨7, 0, 32⟩] ++ ms.map mpT).length = 1 + n from by simp [HN.out]; omega]; clear hown hb3 hg3 hat3 hC3)
      | (go_at_call 21; rw [← HGN.out]; refine (mcheck_any w.heap.size _ (some d) gl A3 c3 false w3 ⟨gd, rfl, HD3.out.dict⟩ (HT.out.below HB3.out) HM3.out (by have := HGN.out; omega) HGW.out HG.out.find).mono ?_; rw [HCK.out, HGN.out]; rintro e w4 ⟨rfl, hb4⟩; have HB4 := Aside0.mk (HB3.out.trans (hb4.mono HB3.out.size)); have HM4 := Aside0.mk (HM3.out.below hb4); have HD4 := Aside0.mk (HD3.out.below hb4); clear hb4)
      | (go_at_call 18; refine (works_any _ (HT.out.below HB4.out)).mono ?_; rintro e w5 ⟨rfl, hb5⟩; have HB5 := Aside0.mk (HB4.out.trans (hb5.mono HB4.out.size)); clear hb5))
    all_goals
      go_ret
      exact ⟨rfl, HB5.out⟩
  case pos =>
    obtain ⟨rfl, hnb4⟩ := hc
    have HUG := Aside0.mk (unpack_gap d ⟨7, 0, 32⟩ ms b 4 hggap rfl (by rw [HNB.out]; exact hnb4) (by rw [HGL.out]; exact HCK.out))
    rw [HGL.out] at HUG
    obtain ⟨⟨xs, tt⟩, hxt⟩ : ∃ r, unpackC (some d) ms (b.drop 4) = r := ⟨_, rfl⟩
    rw [hxt] at HUG
    have HUM := Aside0.mk hxt
    obtain ⟨hok, hxl⟩ := unpack_ok (o := some d) (b := b.drop 4) HMW.out
    rw [hxt] at hok hxl
    rw [HN.out] at hxl
    have HOK := Aside0.mk hok
    obtain ⟨ab, rfl⟩ : ∃ ab, Ab = some ab := by
      obtain ⟨ab, e, -⟩ := HBA.out.rd.2 (by rw [HNB.out]; omega)
      exact ⟨ab, e⟩
    obtain ⟨nx, hnx⟩ : ∃ nx, xs.length = nx := ⟨_, rfl⟩
    have HNX := Aside0.mk hnx
    simp only at hxl
    rw [hnx] at hxl
    have HDR := Aside0.mk (show (b.drop 4).length = nb - 4 by rw [List.length_drop, HNB.out])
    have HG5 := Aside0.mk True.intro
    have HU1 := Aside0.mk fun (W : World) (gd bi bs : Nat) (A' : Option Addr) (c' : Nat) (h1 : DictB w.heap.size W gd bi bs d) (h2 : Below w.heap.size w W) (h3 : MsAt W A' gl) => (show Calls Tryd.prog 27 #[.pointer (some ⟨gd, 0, none⟩), .slice A' (1 + n) c', .slice (some ab) nb cb] W (UnpSaid W (xs, tt)) by
      have h := unpack_any w.heap.size (.pointer (some ⟨gd, 0, none⟩)) (some d) gl A' c' (some ab) cb b W ⟨gd, rfl, h1.dict⟩ (HT.out.below h2) h3 (by have := HGN.out; omega) HGW.out HG.out.find (HBA.out.below h2)
      rw [HUG.out, HGN.out, HNB.out] at h
      exact h)
    have HU2 := Aside0.mk fun (W : World) (gd bi bs : Nat) (A' : Option Addr) (c' : Nat) (h1 : DictB w.heap.size W gd bi bs d) (h2 : Below w.heap.size w W) (h3 : Arg W A' c' (b.drop 4)) => (show Calls Tryd.prog 27 #[.pointer (some ⟨gd, 0, none⟩), .slice A2 n c2, .slice A' (nb - 4) c'] W (UnpSaid W (xs, tt)) by
      have h := unpack_any w.heap.size (.pointer (some ⟨gd, 0, none⟩)) (some d) ms A2 c2 A' c' (b.drop 4) W ⟨gd, rfl, h1.dict⟩ (HT.out.below h2) (HM.out.below h2) (by have := HN.out; omega) HMW.out HG.out.find h3
      rw [HUM.out, HN.out, HDR.out] at h
      exact h)
    clear hxt hok hnx
    by_cases hcn : 4 < cb
    · go_enter Tryd.func5, Tryd.ntmps5
      go_wp2_with (first
        | (go_at_call 17; refine HSZ.out.mono ?_; rintro e w1 ⟨rfl, hb1⟩; have HB1 := Aside0.mk hb1; clear hb1)
        | (go_at_call 19; rw [← HNL.out]; refine (new_all w.heap.size l A c w1 (HE.out.below HB1.out) (fun e he => (HWF.out e he).1) (HT.out.below HB1.out) HB1.out.size _ HR.out).mono ?_; rw [HNL.out]; rintro e w2 ⟨hb2, gd, bi, bs, rfl, hg, hbi, hbs, hD⟩; have HB2 := Aside0.mk (HB1.out.trans (hb2.mono HB1.out.size)); have HD := Aside0.mk hD; clear hb2 hD hg hbi hbs)
        | ((with_reducible refine gate_builtin (b := .append) (xs := #[.tmp 54, .tmp 55]) rfl ?_); at_builtin; refine Kd.R_append_rows kM (Rr := fun x cs => kM.K w2 x cs) (w0 := w2) w2.heap.size rfl (.tmp 54) (.tmp 55) 23 48 (.agg #[.int .u16 0, .int .u8 0, .int .i64 0]) 16 rfl Tryd.underlying23 info_mp rfl (by decide) (by decide) _ [mpT ⟨7, 0, 32⟩] (ms.map mpT) A2 n c2 (fun k => w2.heap.size ≤ k) (fun _ => False) rfl rfl (R_one w2 _ (Nat.le_refl _) ⟨7, 0, 32⟩) (HN.out ▸ ms_rows (HM.out.below (below_step HB2.out (below_alloc (Below.refl _ _) _))) (by have := HN.out; omega)) (fun x cs hx => by obtain ⟨_, _, rfl, ⟨_, _, rfl, rfl, rfl⟩, rfl⟩ := hx; exact ⟨_, _, rfl, ⟨_, _, rfl, rfl, rfl⟩, rfl⟩) (fun k hk => hk.elim) (fun k hk => by simp at hk; omega) (below_alloc (Below.refl _ _) _) (by simp) (by simp; omega) ?_; intro v3 w3 hown hb3 hg3 hat3; obtain ⟨A3, c3, rfl, -, hC3⟩ := Kd.R_reads hown; rw [show [mpT ⟨7, 0, 32⟩] ++ ms.map mpT = (⟨7, 0, 32⟩ :: ms : List Mp).map mpT from rfl, List.length_map] at hC3; have HM3 := Aside0.mk (show MsAt w3 A3 gl from HGL.out ▸ ms_of_C (l := ⟨7, 0, 32⟩ :: ms) hC3); have HB3 := Aside0.mk (HB2.out.trans (hb3.mono HB2.out.size)); have HD3 := Aside0.mk (HD.out.below hb3); rw [show ([mpT ⟨7, 0, 32⟩] ++ ms.map mpT).length = 1 + n from by simp [HN.out]; omega]; clear hown hb3 hg3 hat3 hC3)
        | (go_at_call 21; rw [← HGN.out]; refine (mcheck_any w.heap.size _ (some d) gl A3 c3 false w3 ⟨gd, rfl, HD3.out.dict⟩ (HT.out.below HB3.out) HM3.out (by have := HGN.out; omega) HGW.out HG.out.find).mono ?_; rw [HCK.out, HGN.out]; rintro e w4 ⟨rfl, hb4⟩; have HB4 := Aside0.mk (HB3.out.trans (hb4.mono HB3.out.size)); have HM4 := Aside0.mk (HM3.out.below hb4); have HD4 := Aside0.mk (HD3.out.below hb4); clear hb4)
        | (have hgate := HG5.out; clear hgate; go_at_call 27; refine (HU1.out w4 gd bi bs A3 c3 HD4.out HB4.out HM4.out).mono ?_; rintro e w5 ⟨v5, base5, rfl, hbase5, hR5, hb5⟩; have HB5 := Aside0.mk (HB4.out.trans (hb5.mono HB4.out.size)); have HD5 := Aside0.mk (HD4.out.below hb5); obtain ⟨A5, c5, rfl, -, -⟩ := Kd.R_reads hR5; have HR5 := Aside0.mk hR5; rw [HNX.out]; clear hbase5 hR5 hb5 HG5)
        | (go_at_call 27; refine (HU2.out w5 gd bi bs (some ⟨ab.block, ab.off + 4, none⟩) (cb - 4) HD5.out HB5.out ((HBA.out.below HB5.out).cut 4 (by decide) (by rw [HNB.out]; exact hnb4)).1).mono ?_; rintro e w6 ⟨v6, base6, rfl, hbase6, hR6, hb6⟩; have HB6 := Aside0.mk (HB5.out.trans (hb6.mono HB5.out.size)); have HR56 := Aside0.mk (Kd.R_below HR5.out hb6); obtain ⟨A6, c6, rfl, -, -⟩ := Kd.R_reads hR6; have HR6 := Aside0.mk hR6; rw [HNX.out]; clear hbase6 hR6 hb6))
      go_loopw [18] (fun iv wr => ∃ k : Nat, k ≤ nx ∧ iv = .int .i64 k ∧ Aside0 (Below w6.heap.size w6 wr)) (fun iv _ => nx - (intOf iv).toNat)
      case atStart => exact ⟨0, Nat.zero_le _, rfl, ⟨Below.refl _ _⟩⟩
      case round =>
        obtain ⟨k, hk, rfl, HB⟩ := hrel
        by_cases hlt : k < nx
        · have hkx : k < xs.length := by rw [HNX.out]; exact hlt
          have hmem : xs[k]?.getD zVl ∈ xs := by
            rw [List.getElem?_eq_getElem hkx]
            exact List.getElem_mem hkx
          have hok := HOK.out _ hmem
          obtain ⟨g1, cap1, A7, c7, hv1, y0, y1, y2, ha7⟩ := vl_at (Kd.R_below HR56.out HB.out) k hkx hok
          obtain ⟨g2, cap2, A8, c8, hv2, z0, z1, z2, ha8⟩ := vl_at (Kd.R_below HR6.out HB.out) k hkx hok
          rw [HNX.out] at hv1 hv2
          injection hv1 with hv1 _ hv1'
          subst hv1 hv1'
          injection hv2 with hv2 _ hv2'
          subst hv2 hv2'
          generalize xs[k]?.getD zVl = x at *
          obtain ⟨⟨ix, sub⟩, zs⟩ := x
          simp only at y0 y1 y2 z0 z1 z2 ha7 ha8
          have cv7 := fun X hX => str_at (c := c7) (Rd_C ha7.arg.rd) X hX
          have cv8 := fun X hX => str_at (c := c8) (Rd_C ha8.arg.rd) X hX
          have u0 : ∀ X, Below wr.heap.size wr X → X.cell? ⟨g1, k * 3, none⟩ = some (.int .u16 ix) := fun X hX => pw_cell_below hX y0
          have u1 : ∀ X, Below wr.heap.size wr X → X.cell? ⟨g1, k * 3 + 1, none⟩ = some (.int .u8 sub) := fun X hX => pw_cell_below hX y1
          have u2 : ∀ X, Below wr.heap.size wr X → X.cell? ⟨g1, k * 3 + 2, none⟩ = some (.slice A7 zs.length c7) := fun X hX => pw_cell_below hX y2
          have w0 : ∀ X, Below wr.heap.size wr X → X.cell? ⟨g2, k * 3, none⟩ = some (.int .u16 ix) := fun X hX => pw_cell_below hX z0
          have w1' : ∀ X, Below wr.heap.size wr X → X.cell? ⟨g2, k * 3 + 1, none⟩ = some (.int .u8 sub) := fun X hX => pw_cell_below hX z1
          have w2' : ∀ X, Below wr.heap.size wr X → X.cell? ⟨g2, k * 3 + 2, none⟩ = some (.slice A8 zs.length c8) := fun X hX => pw_cell_below hX z2
          have hS0 : Below wr.heap.size wr wr := Below.refl _ _
          have hi1 : (k : Int) < (nx : Int) := by omega
          have hi3 : (0 : Int) ≤ (k : Int) := by omega
          rw [HNX.out] at HR5 HR56 HR6
          clear y0 y1 y2 z0 z1 z2 ha7 ha8 hok hmem hkx
          go_wp2
          go_region_held3 (fun X => Below wr.heap.size wr X) (first | assumption | exact below_step (by assumption) (by assumption) | exact below_drew (by assumption))
            (fail)
          go_wp2
          go_roundw
          case rel => exact ⟨k + 1, by omega, by go_num, ⟨HB.out.drew⟩⟩
          case measure => simp [intOf]; omega
        · obtain rfl : k = nx := by omega
          have HB7 := Aside0.mk (HB6.out.trans (HB.out.mono HB6.out.size))
          go_wp2_with (go_at_call 18; refine (works_any _ (HT.out.below HB7.out)).mono ?_; rintro e w8 ⟨rfl, hb8⟩; have HB8 := Aside0.mk (HB7.out.trans (hb8.mono HB7.out.size)); clear hb8)
          go_ret
          exact ⟨rfl, HB8.out⟩
    · obtain rfl : cb = 4 := by omega
      obtain rfl : nb = 4 := by omega
      go_enter Tryd.func5, Tryd.ntmps5
      go_wp2_with (first
        | (go_at_call 17; refine HSZ.out.mono ?_; rintro e w1 ⟨rfl, hb1⟩; have HB1 := Aside0.mk hb1; clear hb1)
        | (go_at_call 19; rw [← HNL.out]; refine (new_all w.heap.size l A c w1 (HE.out.below HB1.out) (fun e he => (HWF.out e he).1) (HT.out.below HB1.out) HB1.out.size _ HR.out).mono ?_; rw [HNL.out]; rintro e w2 ⟨hb2, gd, bi, bs, rfl, hg, hbi, hbs, hD⟩; have HB2 := Aside0.mk (HB1.out.trans (hb2.mono HB1.out.size)); have HD := Aside0.mk hD; clear hb2 hD hg hbi hbs)
        | ((with_reducible refine gate_builtin (b := .append) (xs := #[.tmp 54, .tmp 55]) rfl ?_); at_builtin; refine Kd.R_append_rows kM (Rr := fun x cs => kM.K w2 x cs) (w0 := w2) w2.heap.size rfl (.tmp 54) (.tmp 55) 23 48 (.agg #[.int .u16 0, .int .u8 0, .int .i64 0]) 16 rfl Tryd.underlying23 info_mp rfl (by decide) (by decide) _ [mpT ⟨7, 0, 32⟩] (ms.map mpT) A2 n c2 (fun k => w2.heap.size ≤ k) (fun _ => False) rfl rfl (R_one w2 _ (Nat.le_refl _) ⟨7, 0, 32⟩) (HN.out ▸ ms_rows (HM.out.below (below_step HB2.out (below_alloc (Below.refl _ _) _))) (by have := HN.out; omega)) (fun x cs hx => by obtain ⟨_, _, rfl, ⟨_, _, rfl, rfl, rfl⟩, rfl⟩ := hx; exact ⟨_, _, rfl, ⟨_, _, rfl, rfl, rfl⟩, rfl⟩) (fun k hk => hk.elim) (fun k hk => by simp at hk; omega) (below_alloc (Below.refl _ _) _) (by simp) (by simp; omega) ?_; intro v3 w3 hown hb3 hg3 hat3; obtain ⟨A3, c3, rfl, -, hC3⟩ := Kd.R_reads hown; rw [show [mpT ⟨7, 0, 32⟩] ++ ms.map mpT = (⟨7, 0, 32⟩ :: ms : List Mp).map mpT from rfl, List.length_map] at hC3; have HM3 := Aside0.mk (show MsAt w3 A3 gl from HGL.out ▸ ms_of_C (l := ⟨7, 0, 32⟩ :: ms) hC3); have HB3 := Aside0.mk (HB2.out.trans (hb3.mono HB2.out.size)); have HD3 := Aside0.mk (HD.out.below hb3); rw [show ([mpT ⟨7, 0, 32⟩] ++ ms.map mpT).length = 1 + n from by simp [HN.out]; omega]; clear hown hb3 hg3 hat3 hC3)
        | (go_at_call 21; rw [← HGN.out]; refine (mcheck_any w.heap.size _ (some d) gl A3 c3 false w3 ⟨gd, rfl, HD3.out.dict⟩ (HT.out.below HB3.out) HM3.out (by have := HGN.out; omega) HGW.out HG.out.find).mono ?_; rw [HCK.out, HGN.out]; rintro e w4 ⟨rfl, hb4⟩; have HB4 := Aside0.mk (HB3.out.trans (hb4.mono HB3.out.size)); have HM4 := Aside0.mk (HM3.out.below hb4); have HD4 := Aside0.mk (HD3.out.below hb4); clear hb4)
        | (have hgate := HG5.out; clear hgate; go_at_call 27; refine (HU1.out w4 gd bi bs A3 c3 HD4.out HB4.out HM4.out).mono ?_; rintro e w5 ⟨v5, base5, rfl, hbase5, hR5, hb5⟩; have HB5 := Aside0.mk (HB4.out.trans (hb5.mono HB4.out.size)); have HD5 := Aside0.mk (HD4.out.below hb5); obtain ⟨A5, c5, rfl, -, -⟩ := Kd.R_reads hR5; have HR5 := Aside0.mk hR5; rw [HNX.out]; clear hbase5 hR5 hb5 HG5)
        | (go_at_call 27; refine (show Calls _ _ #[_, _, .slice (some ab) 0 0] _ _ from HU2.out w5 gd bi bs (some ab) 0 HD5.out HB5.out (((HBA.out.below HB5.out).cut 4 (by decide) (by rw [HNB.out]; exact hnb4)).2 (by omega))).mono ?_; rintro e w6 ⟨v6, base6, rfl, hbase6, hR6, hb6⟩; have HB6 := Aside0.mk (HB5.out.trans (hb6.mono HB5.out.size)); have HR56 := Aside0.mk (Kd.R_below HR5.out hb6); obtain ⟨A6, c6, rfl, -, -⟩ := Kd.R_reads hR6; have HR6 := Aside0.mk hR6; rw [HNX.out]; clear hbase6 hR6 hb6))
      go_loopw [18] (fun iv wr => ∃ k : Nat, k ≤ nx ∧ iv = .int .i64 k ∧ Aside0 (Below w6.heap.size w6 wr)) (fun iv _ => nx - (intOf iv).toNat)
      case atStart => exact ⟨0, Nat.zero_le _, rfl, ⟨Below.refl _ _⟩⟩
      case round =>
        obtain ⟨k, hk, rfl, HB⟩ := hrel
        by_cases hlt : k < nx
        · have hkx : k < xs.length := by rw [HNX.out]; exact hlt
          have hmem : xs[k]?.getD zVl ∈ xs := by
            rw [List.getElem?_eq_getElem hkx]
            exact List.getElem_mem hkx
          have hok := HOK.out _ hmem
          obtain ⟨g1, cap1, A7, c7, hv1, y0, y1, y2, ha7⟩ := vl_at (Kd.R_below HR56.out HB.out) k hkx hok
          obtain ⟨g2, cap2, A8, c8, hv2, z0, z1, z2, ha8⟩ := vl_at (Kd.R_below HR6.out HB.out) k hkx hok
          rw [HNX.out] at hv1 hv2
          injection hv1 with hv1 _ hv1'
          subst hv1 hv1'
          injection hv2 with hv2 _ hv2'
          subst hv2 hv2'
          generalize xs[k]?.getD zVl = x at *
          obtain ⟨⟨ix, sub⟩, zs⟩ := x
          simp only at y0 y1 y2 z0 z1 z2 ha7 ha8
          have cv7 := fun X hX => str_at (c := c7) (Rd_C ha7.arg.rd) X hX
          have cv8 := fun X hX => str_at (c := c8) (Rd_C ha8.arg.rd) X hX
          have u0 : ∀ X, Below wr.heap.size wr X → X.cell? ⟨g1, k * 3, none⟩ = some (.int .u16 ix) := fun X hX => pw_cell_below hX y0
          have u1 : ∀ X, Below wr.heap.size wr X → X.cell? ⟨g1, k * 3 + 1, none⟩ = some (.int .u8 sub) := fun X hX => pw_cell_below hX y1
          have u2 : ∀ X, Below wr.heap.size wr X → X.cell? ⟨g1, k * 3 + 2, none⟩ = some (.slice A7 zs.length c7) := fun X hX => pw_cell_below hX y2
          have w0 : ∀ X, Below wr.heap.size wr X → X.cell? ⟨g2, k * 3, none⟩ = some (.int .u16 ix) := fun X hX => pw_cell_below hX z0
          have w1' : ∀ X, Below wr.heap.size wr X → X.cell? ⟨g2, k * 3 + 1, none⟩ = some (.int .u8 sub) := fun X hX => pw_cell_below hX z1
          have w2' : ∀ X, Below wr.heap.size wr X → X.cell? ⟨g2, k * 3 + 2, none⟩ = some (.slice A8 zs.length c8) := fun X hX => pw_cell_below hX z2
          have hS0 : Below wr.heap.size wr wr := Below.refl _ _
          have hi1 : (k : Int) < (nx : Int) := by omega
          have hi3 : (0 : Int) ≤ (k : Int) := by omega
          rw [HNX.out] at HR5 HR56 HR6
          clear y0 y1 y2 z0 z1 z2 ha7 ha8 hok hmem hkx
          go_wp2
          go_region_held3 (fun X => Below wr.heap.size wr X) (first | assumption | exact below_step (by assumption) (by assumption) | exact below_drew (by assumption))
            (fail)
          go_wp2
          go_roundw
          case rel => exact ⟨k + 1, by omega, by go_num, ⟨HB.out.drew⟩⟩
          case measure => simp [intOf]; omega
        · obtain rfl : k = nx := by omega
          have HB7 := Aside0.mk (HB6.out.trans (HB.out.mono HB6.out.size))
          go_wp2_with (go_at_call 18; refine (works_any _ (HT.out.below HB7.out)).mono ?_; rintro e w8 ⟨rfl, hb8⟩; have HB8 := Aside0.mk (HB7.out.trans (hb8.mono HB7.out.size)); clear hb8)
          go_ret
          exact ⟨rfl, HB8.out⟩
theorem gaps_all (l : List En) (A : Option Addr) (c : Nat) (ms : List Mp) (A2 : Option Addr) (c2 : Nat) (b : List Int) (Ab : Option Addr) (cb : Nat) (q : Int) (w : World) (hE : EsAt w A l) (hwg : ∀ e ∈ l, e.Wg ∧ Byt e.df) (hl : l.length ≤ 140737488355328) (hM : MsAt w A2 ms) (hmw : ∀ m ∈ ms, m.Wf) (hml : ms.length ≤ 140737488355328) (hb : Arg w Ab cb b) (hbl : b.length ≤ 140737488355328) (hq : 0 ≤ q) (ht : Tbl w) :
    Calls Tryd.prog 5 #[.slice A l.length c, .slice A2 ms.length c2, .slice Ab b.length cb, .int .u8 q] w fun e w' => e = .returned (.bool true) ∧ Below w.heap.size w w' := by
  have h3 : Int.tmod q 3 = q % 3 := Int.tmod_eq_emod_of_nonneg hq
  have h4 : q % 3 = 0 ∨ q % 3 = 1 ∨ q % 3 = 2 := by omega
  rcases h4 with h4 | h4 | h4
  · exact gaps_1 l A c ms A2 c2 b Ab cb q w hE hwg hl hM hmw hml hb hbl (h3.trans h4) ht
  · exact gaps_2 l A c ms A2 c2 b Ab cb q w hE hwg hl hM hmw hml hb hbl (h3.trans h4) ht
  · exact gaps_4 l A c ms A2 c2 b Ab cb q w hE hwg hl hM hmw hml hb hbl (h3.trans h4) ht
end Go.Proofs.YtokebpeplopjhaaDoor.Mp
