/- A producer of one object over a dictionary of one entry, plainly. The table of types, as the card lays it. A Map as an argument: what it reads. Entries, Maps and bytes as arguments: what they read. Rows of values for places, as arguments; a dictionary beside a store into another one. A producer of one object over a dictionary of one entry, in memory: Tick, Write. -/
import Derived.Test.YtokebpeplopjhaaDoorY17
import Derived.Test.YtokebpeplopjhaaDoorY12
import Derived.Test.YtokebpeplopjhaaDoorY13
import Derived.Test.YtokebpeplopjhaaDoorRows
import Derived.Test.YtokebpeplopjhaaDoorY2
import Derived.Laws.IdiomElems
import Derived.WideKeyElems2
import Derived.LaidMore
import Derived.ProofKit
import Derived.OpenShut
import Derived.Stop.Joined
import Derived.Test.YtokebpeplopjhaaDoorY9
import Derived.WideShapes
import Derived.Test.YtokebpeplopjhaaDoorY11
import Derived.Deep.Slices
import Derived.ChangeSlices
import Derived.SizedLaws
import Derived.Test.YtokebpeplopjhaaDoorY7
namespace Go.Proofs.YtokebpeplopjhaaDoor.Mp
open Go.RowKit Go.Proofs.YtokebpeplopjhaaDoor.Num

def oneEn : En := ⟨24576, 1, ByteArray.empty, 5, 7, [], [], [], 0, 0⟩
def oneE : List En := [oneEn]
def oneM : List Mp := [⟨24576, 1, 8⟩]
def d1 : DD := (newC oneE DD.none).2
theorem oneE_ok : ∀ e ∈ oneE, e.Wf ∧ Byt e.df := by
  intro e he
  simp only [oneE, List.mem_cons, List.not_mem_nil, or_false] at he
  subst he
  exact ⟨⟨by decide, by decide, by decide, by decide, by decide, by decide, by decide⟩, byt_of _ rfl⟩
theorem oneM_ok : ∀ m ∈ oneM, m.Wf := by
  intro m hm
  simp only [oneM, List.mem_cons, List.not_mem_nil, or_false] at hm
  subst hm
  exact ⟨by decide, by decide, by decide⟩
theorem d1_good : Good d1 := good_new Good.none oneE_ok
theorem new1 : newR oneE = (0, some d1) := by
  have h : (newC oneE DD.none).1 = 0 := by decide +kernel
  unfold newR
  rw [if_neg (by decide), if_pos h, h]
  rfl
/-- The dictionary holds the value b. -/
structure OneD (d : DD) (b : Int) : Prop where
  good : Good d
  it : ∃ x : It, d.D 24576 1 = some x ∧ x.ty = 5 ∧ x.rt = 7 ∧ x.lo = [] ∧ x.hi = [] ∧ x.val = [b]
theorem OneD.find {d : DD} {b : Int} (h : OneD d b) : ∃ x : It, d.D 24576 1 = some x ∧ findC (some d) 24576 1 = (x, 0) ∧ x.ty = 5 ∧ x.rt = 7 ∧ x.lo = [] ∧ x.hi = [] ∧ x.val = [b] := by
  obtain ⟨x, hx, h1⟩ := h.it
  exact ⟨x, hx, by simp [findC, DD.at, hx], h1⟩
theorem OneD.byt {d : DD} {b : Int} (h : OneD d b) : 0 ≤ b ∧ b < 256 := by
  obtain ⟨x, hx, -, -, -, -, hv⟩ := h.it
  have := (h.good.it _ _ x hx).2.2.2.2 b (by rw [hv]; simp)
  exact this
theorem new1_it : (d1.D 24576 1).isSome = true ∧ ((d1.D 24576 1).getD zIt).ty = 5 ∧ ((d1.D 24576 1).getD zIt).rt = 7 ∧ ((d1.D 24576 1).getD zIt).lo = [] ∧ ((d1.D 24576 1).getD zIt).hi = [] ∧ ((d1.D 24576 1).getD zIt).val = [0] := by decide +kernel
theorem oneD_d1 : OneD d1 0 := by
  refine ⟨d1_good, ?_⟩
  have h := new1_it
  cases hd : d1.D 24576 1 with
  | none => rw [hd] at h; exact absurd h.1 (by decide)
  | some x =>
    rw [hd] at h
    exact ⟨x, rfl, h.2⟩
theorem OneD.check {d : DD} {b : Int} (h : OneD d b) : checkC (some d) oneM true = 0 := by
  obtain ⟨x, -, hf, ht, hr, -⟩ := h.find
  have hone : oneC (some d) true ⟨24576, 1, 8⟩ = 0 := by
    unfold oneC
    rw [if_neg (by decide : ¬ gapC ⟨24576, 1, 8⟩)]
    simp only [hf, ht, hr]
    decide
  unfold checkC
  rw [if_neg (by decide)]
  show (if oneC (some d) true ⟨24576, 1, 8⟩ ≠ 0 then oneC (some d) true ⟨24576, 1, 8⟩ else if (64 : Int) - 8 < 0 then 0x06040042 else checkL (some d) true [] (64 - 8)) = 0
  rw [hone]
  rfl
theorem OneD.pack {d : DD} {b : Int} (h : OneD d b) : bC (some d) oneM = [b] := by
  unfold bC
  rw [if_pos h.check]
  have hb := h.byt
  obtain ⟨x, -, hf, -, -, -, -, hv⟩ := h.find
  have hval : valC (some d) ⟨24576, 1, 8⟩ = [b] := by
    unfold valC
    rw [hf]
    exact hv
  have hst : stC (some d) oneM = bitsL [b] 0 8 := by
    simp [stC, oneM, hval]
  unfold packC
  rw [hst]
  exact pkL_bits (v := [b]) (by intro y hy; simp at hy; subst hy; exact hb)
theorem chk_one {b : Int} : chkC 5 [b] [] [] = 0 := by
  have h1 : plainC 5 [b] = 0 := by
    unfold plainC
    simp [knd, siz]
  unfold chkC
  rw [h1, if_neg (by simp), if_neg (by simp [bndC]), if_neg (by simp [bndC]), if_neg (by simp [bndC])]
theorem OneD.may {d : DD} {b : Int} (h : OneD d b) (b' : Int) : (mayW (some d) 24576 1 [b']).2 = 0 := by
  obtain ⟨x, -, hf, ht, hr, hl, hh, -⟩ := h.find
  unfold mayW
  simp only [hf]
  rw [if_neg (by simp), if_neg (by rw [hr]; decide), if_neg (by rw [ht, hl, hh, chk_one]; simp)]
theorem OneD.write {d : DD} {b : Int} (h : OneD d b) {b' : Int} (hb : 0 ≤ b' ∧ b' < 256) : OneD (wrtC d 24576 1 [b']) b' := by
  obtain ⟨x, hx, hf, ht, hr, hl, hh, -⟩ := h.find
  have hg := h.good.wrt 24576 1 [b'] (by intro y hy; simp at hy; subst hy; exact hb) (fun x _ h => chk_plain h)
  refine ⟨hg, ?_⟩
  obtain ⟨-, h1, h2, -⟩ := h.good.it _ _ x hx
  unfold wrtC
  rw [if_pos (h.may b'), hx]
  refine ⟨{ x with val := [b'] }, ?_, ht, hr, hl, hh, rfl⟩
  simp [DD.put, h1, h2]
/-- One object alone is on. -/
def obI (c : Cm) (s : Bool) (bts : List Int) (a k : Int) (bg : Bool) : Ob := ⟨c, oneM, s, bts, a, false, k, bg⟩
structure OneP (os : Nat → Ob) (x : Ob) : Prop where
  at0 : os 0 = x
  off : ∀ k, 0 < k → k < 8 → (os k).cm = zCm ∧ (os k).maps = []
theorem OneP.maps_ok {os : Nat → Ob} {c : Cm} {s : Bool} {bts : List Int} {a k : Int} {bg : Bool} (h : OneP os (obI c s bts a k bg)) : ∀ i, i < 8 → (∀ m ∈ (os i).maps, m.Wf) ∧ (os i).maps.length ≤ 1000 := by
  intro i hi
  rcases Nat.eq_zero_or_pos i with rfl | h0
  · rw [h.at0]
    exact ⟨oneM_ok, (by decide : oneM.length ≤ 1000)⟩
  · rw [(h.off i h0 hi).2]
    exact ⟨by simp, by simp⟩
theorem OneP.id_ok {os : Nat → Ob} {c : Cm} {s : Bool} {bts : List Int} {a k : Int} {bg : Bool} (h : OneP os (obI c s bts a k bg)) (hc : 0 ≤ c.id) : ∀ i, i < 8 → 0 ≤ (os i).cm.id := by
  intro i hi
  rcases Nat.eq_zero_or_pos i with rfl | h0
  · rw [h.at0]
    exact hc
  · rw [(h.off i h0 hi).1]
    decide
theorem eachF_one (is : Ob → Bool) (o : Option DD) (os : Nat → Ob) (h : ∀ k, 0 < k → k < 8 → (os k).cm.on = false) : eachF is o os 8 = if (os 0).cm.on = true ∧ is (os 0) = true then [frC o (os 0)] else [] := by
  have step : ∀ n, n < 8 → eachF is o os (n + 1) = if (os 0).cm.on = true ∧ is (os 0) = true then [frC o (os 0)] else [] := by
    intro n
    induction n with
    | zero => intro _; simp [eachF]
    | succ n ih =>
      intro hn
      have h1 : eachF is o os (n + 1 + 1) = eachF is o os (n + 1) ++ if (os (n + 1)).cm.on = true ∧ is (os (n + 1)) = true then [frC o (os (n + 1))] else [] := rfl
      rw [h1, ih (by omega), if_neg (c := (os (n + 1)).cm.on = true ∧ _) (by rw [h (n + 1) (by omega) hn]; simp), List.append_nil]
  exact step 7 (by omega)
theorem eachO_one {is : Ob → Bool} {o : Option DD} {now : Int} {os : Nat → Ob} {c : Cm} {s : Bool} {bts : List Int} {a k : Int} {bg : Bool} (h : OneP os (obI c s bts a k bg)) (hc : c.on = true) :
    (is (os 0) = true → OneP (eachO is o now os 8) (obI c true (bC o oneM) now k bg)) ∧ (is (os 0) = false → OneP (eachO is o now os 8) (obI c s bts a k bg)) := by
  have hoff : ∀ k, 0 < k → k < 8 → eachO is o now os 8 k = os k := fun k h0 hk => eachO_same (fun hh => by rw [(h.off k h0 hk).1] at hh; exact absurd hh.2.1 (by decide))
  constructor
  · intro hi
    have e : eachO is o now os 8 0 = sentC o (os 0) now := if_pos ⟨by omega, by rw [h.at0]; exact hc, hi⟩
    exact ⟨by rw [e, h.at0]; rfl, fun k h0 hk => by rw [hoff k h0 hk]; exact h.off k h0 hk⟩
  · intro hi
    have e : eachO is o now os 8 0 = os 0 := eachO_same (fun hh => by rw [hi] at hh; exact absurd hh.2.2 (by decide))
    exact ⟨by rw [e]; exact h.at0, fun k h0 hk => by rw [hoff k h0 hk]; exact h.off k h0 hk⟩
theorem frC_one {d : DD} {b : Int} (hd : OneD d b) {c : Cm} {s : Bool} {bts : List Int} {a k : Int} {bg : Bool} (hc : c.id = 385) : (frC (some d) (obI c s bts a k bg)).cells = #[.int .u16 385, .int .i64 1, .int .u8 b, .int .u8 0, .int .u8 0, .int .u8 0, .int .u8 0, .int .u8 0, .int .u8 0, .int .u8 0, .bool false] := by
  have h : frC (some d) (obI c s bts a k bg) = frZ 385 [b] := by
    show frZ c.id (bC (some d) oneM) = _
    rw [hd.pack, hc]
  rw [h]
  rfl
/-- Is the object sent as time goes? -/
def sndC (c : Cm) (s : Bool) (bts : List Int) (a v now : Int) : Bool :=
  if now - a < 0 ∨ (s = true ∧ now - a < c.inh) then false else (!s || !decide ([v] = bts)) || (decide (0 < c.ev) && decide (c.ev ≤ now - a))
theorem tick_one {d : DD} {b : Int} (hd : OneD d b) {c : Cm} {s : Bool} {bts : List Int} {a k : Int} {bg : Bool} (hc : c.on = true ∧ 254 ≤ c.kind) (now : Int) (hn : 0 ≤ now ∧ now ≤ 1000000) (ha : 0 ≤ a ∧ a ≤ 1000000) : tickC (some d) (obI c s bts a k bg) now = sndC c s bts a b now := by
  have ht : (obI c s bts a k bg).cm.timed = true := by
    show (c.on && decide (254 ≤ c.kind)) = true
    simp [hc]
  have hw : wrap64 (now - (obI c s bts a k bg).at_) = now - a := by
    show wrap64 (now - a) = now - a
    unfold wrap64
    omega
  have hch : chgC (some d) (obI c s bts a k bg) = (!s || !decide ([b] = bts)) := by
    show (!s || !decide (bC (some d) oneM = bts)) = _
    rw [hd.pack]
  unfold tickC sndC
  rw [hw, ht, hch]
  simp only [Bool.true_eq_false, false_or]
  show (if now - a < 0 ∨ s = true ∧ now - a < c.inh then false else (!s || !decide ([b] = bts)) || false || (decide (0 < c.ev) && decide (c.ev ≤ now - a))) = _
  rw [Bool.or_false]
end Go.Proofs.YtokebpeplopjhaaDoor.Mp
namespace Go.Proofs.YtokebpeplopjhaaDoor.Mp
open Go.ChangeShapes Go.WideShapes Go.ChangeAt Go.WideElems Go.RowKit
open Go.Proofs.YtokebpeplopjhaaDoor.Rng

def tys : List Int := [1, 2, 3, 4, 5, 6, 7, 8, 9, 10, 12, 13, 15, 16, 17, 21, 22, 27]
theorem tys_all {t : Int} (h : knd t ≠ 0) : t ∈ tys := by
  have := form_cases t
  simp only [tys, List.mem_cons, List.not_mem_nil, or_false]
  omega
theorem tys_in {t : Int} (h : t ∈ tys) : (0 ≤ t ∧ t < 256) ∧ knd t ≠ 0 := by
  simp only [tys, List.mem_cons, List.not_mem_nil, or_false] at h
  rcases h with rfl | rfl | rfl | rfl | rfl | rfl | rfl | rfl | rfl | rfl | rfl | rfl | rfl | rfl | rfl | rfl | rfl | rfl <;> decide
def rowD (H : Type) (t : Int) : Lit × DataW H := (.int .u8 t, .agg [.lit (.int .u8 (knd t)), .lit (.int .i64 (siz t))])
theorem laid_eq (H : Type) : Rows.laid_campanile_types_table (H := H) = .map (tys.map (rowD H)) := rfl
theorem cells_form : Tryd.prog.cellsOf 200 = 2 := by kernel_rfl
theorem cells_8 : Tryd.prog.cellsOf 5 = 1 := by kernel_rfl
theorem cells_64 : Tryd.prog.cellsOf 3 = 1 := by kernel_rfl
theorem gTable : Tryd.prog.globalNamed "campanile/types.table" = some 0 := by kernel_rfl
theorem tTable : (Tryd.prog.globals[0]?).map (·.type) = some 201 := by kernel_rfl
set_option maxRecDepth 100000 in
theorem tbl_of_laid {W : World} (h : laidMetH Tryd.prog [("campanile/types.table", Rows.laid_campanile_types_table)] W) : Tbl W := by
  rw [MakeChecks.laidMetH_plain _ _ _ (by kernel_rfl)] at h
  obtain ⟨ps, ⟨g0, t0, cs0, f0, p0, q0, hg0, ht0, hv0, hd0, _, _⟩, _, _⟩ := h
  obtain rfl := Option.some.inj (gTable.symm.trans hg0)
  obtain rfl := Option.some.inj (tTable.symm.trans ht0)
  rcases open_map Tryd.underlying201 hd0 with ⟨_, hx⟩ | ⟨bm, es, clock, m, rfl, hcs, hb, _, F, hx⟩
  · rw [laid_eq] at hx
    simp at hx
  rw [laid_eq] at hx
  simp only [Prod.mk.injEq, DataW.map.injEq] at hx
  have hperm := hx.1 ▸ sorted_perm (es.toList.map (rg Tryd.prog 5 (elemAt _ Tryd.prog W 0 _ _ m 200)))
  have hlen := hperm.length_eq
  have hone : ∀ x ∈ es.toList, ∃ t ∈ tys, rg Tryd.prog 5 (elemAt (fun _ => ()) Tryd.prog W 0 (fun _ => true) false m 200) x = rowD Unit t ∧ x.key = .int .u8 t ∧ x.val = .agg #[.int .u8 (knd t), .int .i64 (siz t)] := by
    intro x hx
    have hm := hperm.mem_iff.2 (List.mem_map.2 ⟨x, hx, rfl⟩)
    obtain ⟨t, ht, he⟩ := List.mem_map.1 hm
    obtain ⟨y, hy⟩ := F.reads x hx
    rw [rg_of hy] at he
    have hk := rd_key hy
    obtain ⟨z, hz, hz2⟩ := rd_val hy
    rw [← he] at hk hz2
    have hb := tys_in ht
    obtain ⟨a, b, hv, rfl, -, -⟩ := elemAt_pair Tryd.underlying200 rfl rfl Tryd.underlying5 Tryd.underlying3 cells_8 cells_64 cells_form hz
    simp only [rowD, DataW.agg.injEq, List.cons.injEq, DataW.lit.injEq, Lit.int.injEq, true_and, and_true] at hz2
    obtain ⟨rfl, rfl⟩ := hz2
    exact ⟨t, ht, by rw [rg_of hy, he], law_u8.inj hk (key_u8 hb.1), hv⟩
  have hcell : W.cell? ⟨0, 0, none⟩ = some (.map (some bm)) := by
    have := World.var?_cell hg0 hv0 0
    rw [Array.eq_one_of_toList hcs] at this
    simpa using this
  refine ⟨bm, (Array.getElem?_eq_some_iff.1 hb).1, World.block_lt_of_cell? W _ hcell, hcell, es, clock, hb, F.stamped, ?_, F.keys, ?_, ?_⟩
  · simp [tys] at hlen
    omega
  · intro x hx
    obtain ⟨t, ht, _, hk, hv⟩ := hone x hx
    rw [hk, hv]
    simp [tblF, (tys_in ht).2]
  · intro key v hf
    unfold tblF at hf
    split at hf
    · rename_i t
      split at hf
      · cases hf
      · rename_i hk
        injection hf with hf
        have hm : rowD Unit t ∈ tys.map (rowD Unit) := List.mem_map.2 ⟨t, tys_all hk, rfl⟩
        obtain ⟨x, hx, he⟩ := List.mem_map.1 (hperm.mem_iff.1 hm)
        obtain ⟨t', _, e1, e2, e3⟩ := hone x hx
        rw [he] at e1
        have : t = t' := by
          have := congrArg Prod.fst e1
          simpa [rowD] using this
        subst this
        exact ⟨x, hx, e2, e3.trans hf⟩
    · cases hf
/-- The door's own heap meets the condition. -/
theorem door_met (os : Os) (args : Array Value) : laidMetH Tryd.prog [("campanile/types.table", Rows.laid_campanile_types_table)] ((World.doorLaid Tryd.prog 400 os).forCall (fun _ _ => 0) ⟨#[], args, []⟩).memory :=
  laidMetH_of_parts3 (fuel := 8) (laidMet_of_run' 8 (by kernel_rfl) (by kernel_rfl)) (by kernel_rfl) (by kernel_rfl)
end Go.Proofs.YtokebpeplopjhaaDoor.Mp
namespace Go.Proofs.YtokebpeplopjhaaDoor.Mp
open Go.RowKit Go.ChangeShapes Go.WideShapes

theorem cells_map : Tryd.prog.cellsOf 48 = 3 := by kernel_rfl
theorem cells_place : Tryd.prog.cellsOf 33 = 2 := by kernel_rfl
theorem cells_16 : Tryd.prog.cellsOf 31 = 1 := by kernel_rfl
theorem wf_8 {n : Int} (h : (Lit.int .u8 n).wf = true) : 0 ≤ n ∧ n < 256 := by
  have := bounds_u8 h
  omega
section
variable {H : Type} {enc : TypeId × Value → H} {W : World} {held : Bool}
set_option maxRecDepth 100000 in
theorem open_place {fuel : Nat} {cs : List Value} {x : DataW H × List MemPlace} (h : DataW.trod enc Tryd.prog W 0 (fun _ => true) held fuel 33 cs = some x) :
    ∃ i s : Int, cs = [.int .u16 i, .int .u8 s] ∧ (0 ≤ i ∧ i < 65536) ∧ (0 ≤ s ∧ s < 256) := by
  obtain ⟨y0, y1, n, rfl, hcl, g0, g1⟩ := trod_struct2 Tryd.underlying33 h
  rw [cells_place] at hcl
  match cs, hcl with
  | [c0, c1], _ =>
    simp [cells_16, cells_8] at g0 g1
    obtain ⟨i, hi, -, wi⟩ := DataW.trod_int Tryd.underlying31 g0
    obtain ⟨s, hs, -, ws⟩ := DataW.trod_int Tryd.underlying5 g1
    simp only [List.cons.injEq, and_true] at hi hs
    subst hi hs
    have := bounds_u16 wi
    exact ⟨i, s, rfl, by omega, wf_8 ws⟩
set_option maxRecDepth 100000 in
theorem open_map3 {fuel : Nat} {cs : List Value} {x : DataW H × List MemPlace} (h : DataW.trod enc Tryd.prog W 0 (fun _ => true) held fuel 48 cs = some x) :
    ∃ i s b : Int, cs = [.int .u16 i, .int .u8 s, .int .i64 b] ∧ Mp.Wf ⟨i, s, b⟩ := by
  obtain ⟨y0, y1, n, rfl, hcl, g0, g1⟩ := trod_struct2 Tryd.underlying48 h
  rw [cells_map] at hcl
  match cs, hcl with
  | [c0, c1, c2], _ =>
    simp [cells_place, cells_64] at g0 g1
    obtain ⟨i, s, he, hi, hs⟩ := open_place g0
    obtain ⟨b, hb, -, wb⟩ := DataW.trod_int Tryd.underlying3 g1
    simp only [List.cons.injEq, and_true] at he hb
    obtain ⟨rfl, rfl⟩ := he
    subst hb
    have := bounds_i64 wb
    exact ⟨i, s, b, rfl, hi, hs, by omega⟩
end
set_option maxRecDepth 100000 in
/-- A Map by value. -/
theorem open_mapV {H : Type} {enc : TypeId × Value → H} {W : World} {held : Bool} {r : Reach} {b0 : Nat} {v : Value} {d : DataW H} {p : List MemPlace} (hval : Value.okWide Tryd.prog W r b0 48 v) (h : DataW.Trod enc Tryd.prog W 0 (fun _ => true) held 48 v d p) :
    ∃ i s b : Int, v = .agg #[.int .u16 i, .int .u8 s, .int .i64 b] ∧ Mp.Wf ⟨i, s, b⟩ := by
  obtain ⟨cs, rfl, _⟩ := okWide_struct Tryd.underlying48 hval
  obtain ⟨m, hm⟩ := h
  obtain ⟨i, s, b, hc, hw⟩ := open_map3 hm
  refine ⟨i, s, b, ?_, hw⟩
  congr 1
  exact Array.toList_inj.1 hc
end Go.Proofs.YtokebpeplopjhaaDoor.Mp
namespace Go.Proofs.YtokebpeplopjhaaDoor.Mp
open Go.RowKit Go.Shelf Go.Proofs.YtokebpeplopjhaaDoor.Rng Go.Proofs.YtokebpeplopjhaaDoorW.PrintWords Go.Proofs.YtokebpeplopjhaaDoorW.PrintMore
open Go.ChangeShapes Go.WideShapes Go.Deep

theorem cells_s : Tryd.prog.cellsOf 9 = 1 := by kernel_rfl
theorem cells_bs : Tryd.prog.cellsOf 34 = 1 := by kernel_rfl
theorem cells_en : Tryd.prog.cellsOf 121 = 10 := by kernel_rfl
theorem bytes_u8 : Tryd.prog.bytesOf 5 = 1 := by kernel_rfl
theorem bytes_en : Tryd.prog.bytesOf 121 = 112 := by kernel_rfl
theorem bytes_mp : Tryd.prog.bytesOf 48 = 16 := by kernel_rfl
theorem bytes_vl : Tryd.prog.bytesOf 36 = 32 := by kernel_rfl

theorem mem_weightsAll {H : Type} {P : Program} {e : TypeId} {ds : List (DataW H)} {d : DataW H} {n : Nat} (hd : d ∈ ds) (hn : n ∈ d.weights P e) : n ∈ DataW.weightsAll P e ds := by
  induction ds with
  | nil => cases hd
  | cons y r ih =>
    simp only [DataW.weightsAll, List.mem_append]
    rcases List.mem_cons.1 hd with rfl | hd
    · exact .inl hn
    · exact .inr (ih hd)
theorem wf_u8 {n : Int} (h : (Lit.int .u8 n).wf = true) : 0 ≤ n ∧ n < 256 := by
  have h1 : IntKind.u8.min = 0 := rfl
  have h2 : IntKind.u8.max = 255 := rfl
  simp [Lit.wf] at h
  omega
theorem wf_u16 {n : Int} (h : (Lit.int .u16 n).wf = true) : 0 ≤ n ∧ n < 65536 := by
  have h1 : IntKind.u16.min = 0 := rfl
  have h2 : IntKind.u16.max = 65535 := rfl
  simp [Lit.wf] at h
  omega
section
variable {H : Type} {enc : TypeId × Value → H} {W : World} {held : Bool}
/-- A row of bytes. -/
theorem open_bs {fuel : Nat} {v : Value} {d : DataW H} {p : List MemPlace} (h : DataW.trod enc Tryd.prog W 0 (fun _ => true) held fuel 34 [v] = some (d, p)) (hwt : ∀ n ∈ d.weights Tryd.prog 34, n ≤ reachBytes) :
    ∃ zs : List Int, ArgV W v zs := by
  rcases open_ints Tryd.underlying34 Tryd.underlying5 cells_u8 h with ⟨hcs, hx⟩ | ⟨a, len, cap, zs, hcs, _, hl, hm, hz, hx, hcell, hw⟩
  · injection hcs with hcs
    subst hcs
    exact ⟨[], ArgV.nil W⟩
  · injection hcs with hcs
    subst hcs
    rw [if_pos rfl] at hz
    have hlen : (zs.take len).length = len := by rw [List.length_take]; omega
    have hmx : maxLen = 9223372036854775807 := rfl
    refine ⟨zs.take len, some a, cap, by rw [hlen], ⟨⟨by omega, fun _ => ⟨a, rfl, fun j hj => ?_⟩⟩, fun x hx' => ?_, by omega, by omega⟩, ?_⟩
    · rw [hcell j (by omega), List.getD_eq_getElem?_getD, List.getElem?_take, if_pos (by omega)]
    · exact wf_u8 (hw x (List.mem_of_mem_take hx'))
    · obtain ⟨hx, _⟩ := Prod.mk.inj hx
      subst hx
      have h1 := hwt ((lits (H := H) .u8 (zs.take len)).length * 1 + (lits (H := H) .u8 (zs.drop len)).length * 1) (by
        simp only [DataW.weights, Tryd.underlying34, bytes_u8]
        exact List.mem_cons.2 (.inl (by omega)))
      have h2 : (lits (H := H) .u8 (zs.take len)).length = (zs.take len).length := by simp [lits]
      have h3 : reachBytes = 140737488351232 := rfl
      omega
/-- An entry whose name may be great. -/
structure En.Wg (e : En) : Prop where
  ix : 0 ≤ e.ix ∧ e.ix < 65536
  sub : 0 ≤ e.sub ∧ e.sub < 256
  ty : 0 ≤ e.ty ∧ e.ty < 256
  rt : 0 ≤ e.rt ∧ e.rt < 256
  tag : 0 ≤ e.tag ∧ e.tag < 256
  grp : 0 ≤ e.grp ∧ e.grp < 256
  name : e.name.size ≤ 140737488355328
theorem En.Wg.wf {e : En} (h : e.Wg) (hn : e.name.size ≤ 1000000) : e.Wf := ⟨h.ix, h.sub, h.ty, h.rt, h.tag, h.grp, hn⟩
set_option maxRecDepth 100000 in
set_option maxHeartbeats 1000000 in
/-- One entry. -/
theorem open_en {fuel : Nat} {cs : List Value} {d : DataW H} {p : List MemPlace} (h : DataW.trod enc Tryd.prog W 0 (fun _ => true) held fuel 121 cs = some (d, p)) (hwt : ∀ n ∈ d.weights Tryd.prog 121, n ≤ reachBytes) :
    ∃ (e : En) (v1 v2 v3 : Value), cs = e.cells v1 v2 v3 ∧ ArgV W v1 e.df ∧ ArgV W v2 e.lo ∧ ArgV W v3 e.hi ∧ e.Wg := by
  obtain ⟨xs, n, rfl, hx, hcl, hxl, hf⟩ := DataW.trod_struct Tryd.underlying121 h
  rw [cells_en] at hcl
  match xs, hxl, cs, hcl with
  | [y0, y1, y2, y3, y4, y5, y6, y7, y8, y9], _, [c0, c1, c2, c3, c4, c5, c6, c7, c8, c9], _ =>
    have g0 := hf 0 _ rfl
    have g1 := hf 1 _ rfl
    have g2 := hf 2 _ rfl
    have g3 := hf 3 _ rfl
    have g4 := hf 4 _ rfl
    have g5 := hf 5 _ rfl
    have g6 := hf 6 _ rfl
    have g7 := hf 7 _ rfl
    have g8 := hf 8 _ rfl
    have g9 := hf 9 _ rfl
    clear hf
    simp [cells_16, cells_8, cells_s, cells_bs] at g0 g1 g2 g3 g4 g5 g6 g7 g8 g9
    obtain ⟨i0, e0, -, w0⟩ := DataW.trod_int Tryd.underlying31 g0
    obtain ⟨i1, e1, -, w1⟩ := DataW.trod_int Tryd.underlying5 g1
    obtain ⟨s, e2, hs2, ws⟩ := DataW.trod_string Tryd.underlying9 g2
    obtain ⟨i3, e3, -, w3⟩ := DataW.trod_int Tryd.underlying5 g3
    obtain ⟨i4, e4, -, w4⟩ := DataW.trod_int Tryd.underlying5 g4
    obtain ⟨i8, e8, -, w8⟩ := DataW.trod_int Tryd.underlying5 g8
    obtain ⟨i9, e9, -, w9⟩ := DataW.trod_int Tryd.underlying5 g9
    injection e0 with e0
    injection e1 with e1
    injection e2 with e2
    injection e3 with e3
    injection e4 with e4
    injection e8 with e8
    injection e9 with e9
    subst e0 e1 e2 e3 e4 e8 e9
    obtain ⟨hd, _⟩ := Prod.mk.inj hx
    subst hd
    have hw : ∀ (j : Nat) (t : TypeId) (dd : DataW H), [31, 5, 9, 5, 5, 34, 34, 34, 5, 5][j]? = some t → ([y0, y1, y2, y3, y4, y5, y6, y7, y8, y9].map (·.1))[j]? = some dd → ∀ n ∈ dd.weights Tryd.prog t, n ≤ reachBytes := by
      intro j t dd ht hdd n hn
      refine hwt n ?_
      simp only [DataW.weights, Tryd.underlying121]
      exact DataW.weights_mem_each (ts := [31, 5, 9, 5, 5, 34, 34, 34, 5, 5]) ht hdd n hn
    obtain ⟨d5, p5⟩ := y5
    obtain ⟨d6, p6⟩ := y6
    obtain ⟨d7, p7⟩ := y7
    obtain ⟨z5, a5⟩ := open_bs g5 (hw 5 _ _ rfl rfl)
    obtain ⟨z6, a6⟩ := open_bs g6 (hw 6 _ _ rfl rfl)
    obtain ⟨z7, a7⟩ := open_bs g7 (hw 7 _ _ rfl rfl)
    have hn := hw 2 _ _ rfl rfl s.size (by
      subst hs2
      simp [DataW.weights])
    have h3 : reachBytes = 140737488351232 := rfl
    exact ⟨⟨i0, i1, s, i3, i4, z5, z6, z7, i8, i9⟩, _, _, _, rfl, a5, a6, a7, ⟨wf_u16 w0, wf_u8 w1, wf_u8 w3, wf_u8 w4, wf_u8 w8, wf_u8 w9, by simp only; omega⟩⟩
/-- A row of entries. -/
theorem open_es {v : Value} {d : DataW H} {p : List MemPlace} (h : DataW.Trod enc Tryd.prog W 0 (fun _ => true) held 22 v d p) (hv : v.cells.toList = [v]) (hwt : ∀ n ∈ d.weights Tryd.prog 22, n ≤ reachBytes) :
    ∃ (l : List En) (A : Option Addr) (c : Nat), v = .slice A l.length c ∧ EsAt W A l ∧ (∀ e ∈ l, e.Wg ∧ Byt e.df) ∧ l.length ≤ 140737488355328 := by
  obtain ⟨fuel, hf⟩ := h
  rw [hv] at hf
  have h3 : reachBytes = 140737488351232 := rfl
  rcases open_slice Tryd.underlying22 hf with ⟨hcs, hx⟩ | ⟨a, len, cap, m, n, D, Pl, hcs, _, hl, hm, hmm, hx, hel⟩
  · injection hcs with hcs
    subst hcs
    exact ⟨[], none, 0, rfl, (fun j e hj => by simp at hj), (by intro x hx; cases hx), Nat.zero_le _⟩
  · injection hcs with hcs
    subst hcs
    rw [if_pos rfl] at hmm
    subst hmm
    rw [cells_en] at hel hx
    obtain ⟨hd, -⟩ := Prod.mk.inj hx
    subst hd
    have hwl : len ≤ reachBytes := by
      have h1 := hwt _ (by
        simp only [DataW.weights, Tryd.underlying22]
        exact List.mem_cons.2 (.inl rfl))
      rw [bytes_en] at h1
      simp only [List.length_map, List.length_range] at h1
      omega
    have each : ∀ i, i < len → ∃ q : En × Value × Value × Value, W.cells? 0 (a.add (i * 10)) 10 = some (q.1.cells q.2.1 q.2.2.1 q.2.2.2) ∧ ArgV W q.2.1 q.1.df ∧ ArgV W q.2.2.1 q.1.lo ∧ ArgV W q.2.2.2 q.1.hi ∧ q.1.Wg := by
      intro i hi
      obtain ⟨cs', h1, h2⟩ := hel i (by omega)
      obtain ⟨e, v1, v2, v3, rfl, r1, r2, r3, r4⟩ := open_en h2 (fun n hn => hwt n (by
        simp only [DataW.weights, Tryd.underlying22]
        refine List.mem_cons.2 (.inr (List.mem_append.2 (.inl ?_)))
        exact mem_weightsAll (List.mem_map.2 ⟨i, List.mem_range.2 hi, rfl⟩) hn))
      exact ⟨(e, v1, v2, v3), h1, r1, r2, r3, r4⟩
    haveI : Inhabited (En × Value × Value × Value) := ⟨(zEn, .int .u8 0, .int .u8 0, .int .u8 0)⟩
    obtain ⟨q, hq⟩ := choose_lt each
    have hlen : ((List.range len).map fun i => (q i).1).length = len := by simp
    refine ⟨(List.range len).map fun i => (q i).1, some a, m, by rw [hlen], fun j e hj => ?_, fun x hx => ?_, by omega⟩
    · have hjl : j < len := by have := (List.getElem?_eq_some_iff.1 hj).1; omega
      obtain ⟨h1, h2, h3, h4, _⟩ := hq j hjl
      have hxe : e = (q j).1 := by
        rw [List.getElem?_map, List.getElem?_range hjl] at hj
        exact (Option.some.inj hj).symm
      subst hxe
      refine ⟨a, (q j).2.1, (q j).2.2.1, (q j).2.2.2, rfl, fun i u hu => ?_, h2, h3, h4⟩
      obtain ⟨_, _, hcell⟩ := World.cells?_some h1
      have hi3 : i < 10 := by have := (List.getElem?_eq_some_iff.1 hu).1; simpa [En.cells] using this
      have h5 := hcell i (by simpa [En.cells] using hi3)
      rw [Go.Deep.add_add] at h5
      first | exact h5.trans hu | (rw [h5]; exact hu)
    · obtain ⟨i, hi, rfl⟩ := List.mem_map.1 hx
      obtain ⟨_, h2, _, _, h5⟩ := hq i (List.mem_range.1 hi)
      exact ⟨h5, h2.byt⟩
/-- A row of Maps. -/
theorem open_ms {v : Value} {d : DataW H} {p : List MemPlace} (h : DataW.Trod enc Tryd.prog W 0 (fun _ => true) held 23 v d p) (hv : v.cells.toList = [v]) (hwt : ∀ n ∈ d.weights Tryd.prog 23, n ≤ reachBytes) :
    ∃ (l : List Mp) (A : Option Addr) (c : Nat), v = .slice A l.length c ∧ MsAt W A l ∧ (∀ m ∈ l, m.Wf) ∧ l.length ≤ 140737488355328 := by
  obtain ⟨fuel, hf⟩ := h
  rw [hv] at hf
  have h3 : reachBytes = 140737488351232 := rfl
  rcases open_slice Tryd.underlying23 hf with ⟨hcs, hx⟩ | ⟨a, len, cap, m, n, D, Pl, hcs, _, hl, hm, hmm, hx, hel⟩
  · injection hcs with hcs
    subst hcs
    exact ⟨[], none, 0, rfl, (fun j e hj => by simp at hj), (by intro x hx; cases hx), Nat.zero_le _⟩
  · injection hcs with hcs
    subst hcs
    rw [if_pos rfl] at hmm
    subst hmm
    rw [cells_map] at hel hx
    obtain ⟨hd, -⟩ := Prod.mk.inj hx
    subst hd
    have hwl : len ≤ reachBytes := by
      have h1 := hwt _ (by
        simp only [DataW.weights, Tryd.underlying23]
        exact List.mem_cons.2 (.inl rfl))
      rw [bytes_mp] at h1
      simp only [List.length_map, List.length_range] at h1
      omega
    have each : ∀ i, i < len → ∃ q : Mp, W.cells? 0 (a.add (i * 3)) 3 = some [.int .u16 q.ix, .int .u8 q.sub, .int .i64 q.bits] ∧ q.Wf := by
      intro i hi
      obtain ⟨cs', h1, h2⟩ := hel i (by omega)
      obtain ⟨i0, s0, b0, rfl, hw⟩ := open_map3 h2
      exact ⟨⟨i0, s0, b0⟩, h1, hw⟩
    haveI : Inhabited Mp := ⟨⟨0, 0, 0⟩⟩
    obtain ⟨q, hq⟩ := choose_lt each
    have hlen : ((List.range len).map q).length = len := by simp
    refine ⟨(List.range len).map q, some a, m, by rw [hlen], fun j e hj => ?_, fun x hx => ?_, by omega⟩
    · have hjl : j < len := by have := (List.getElem?_eq_some_iff.1 hj).1; omega
      obtain ⟨h1, _⟩ := hq j hjl
      have hxe : e = q j := by
        rw [List.getElem?_map, List.getElem?_range hjl] at hj
        exact (Option.some.inj hj).symm
      subst hxe
      obtain ⟨_, _, hcell⟩ := World.cells?_some h1
      have f : ∀ (i : Nat) u, 0 < i → i < 3 → [Value.int .u16 (q j).ix, .int .u8 (q j).sub, .int .i64 (q j).bits][i]? = some u → W.cell? ⟨(a.add (j * 3)).block, (a.add (j * 3)).off + i, none⟩ = some u := fun i u h0 hi hu => by
        have h5 := hcell i (by simpa using hi)
        rw [← add_field _ _ i h0, ← Go.Deep.add_add]
        first | exact h5.trans hu | (rw [h5]; exact hu)
      refine ⟨a, rfl, ?_, f 1 _ (by omega) (by omega) rfl, f 2 _ (by omega) (by omega) rfl⟩
      have h5 := hcell 0 (by simp)
      rw [Go.Deep.add_add, Nat.add_zero] at h5
      simpa using h5
    · obtain ⟨i, hi, rfl⟩ := List.mem_map.1 hx
      exact (hq i (List.mem_range.1 hi)).2
end
end Go.Proofs.YtokebpeplopjhaaDoor.Mp
namespace Go.Proofs.YtokebpeplopjhaaDoor.Mp
open Go.RowKit Go.Shelf Go.Proofs.YtokebpeplopjhaaDoor.Rng Go.Proofs.YtokebpeplopjhaaDoorW.PrintWords Go.Proofs.YtokebpeplopjhaaDoorW.PrintMore
open Go.ChangeShapes Go.WideShapes Go.Deep

theorem cells_vl : Tryd.prog.cellsOf 36 = 3 := by kernel_rfl
/-- A row of values for places. -/
def VsAt (w : World) (A : Option Addr) (l : List Vl) : Prop := ∀ (j : Nat) x, l[j]? = some x → ∃ ad A1 a1, A = some ad ∧ w.cell? (ad.add (j * 3)) = some (.int .u16 x.1.1) ∧ w.cell? ⟨(ad.add (j * 3)).block, (ad.add (j * 3)).off + 1, none⟩ = some (.int .u8 x.1.2) ∧ w.cell? ⟨(ad.add (j * 3)).block, (ad.add (j * 3)).off + 2, none⟩ = some (.slice A1 x.2.length a1) ∧ ArgV w (.slice A1 x.2.length a1) x.2
theorem VsAt.below {w w' : World} {A : Option Addr} {l : List Vl} (h : VsAt w A l) (hb : Below w.heap.size w w') : VsAt w' A l := by
  intro j x hj
  obtain ⟨ad, A1, a1, hA, h1, h2, h3, h4⟩ := h j x hj
  exact ⟨ad, A1, a1, hA, pw_cell_below hb h1, pw_cell_below hb h2, pw_cell_below hb h3, h4.below hb⟩
theorem DictAt.fr {M : Nat → Prop} {B : Nat} {w w' : World} {g : Nat} {d : DD} {bi bs n m : Nat} {fi fs : Value → Option Value} (h : DictAt B w g d bi bs n m fi fs) (hf : Fr M w w') (hM : NoByte w M) (h1 : ¬ M g) (h2 : ¬ M bi) (h3 : ¬ M bs) : DictAt B w' g d bi bs n m fi fs :=
  ⟨(hf.block g (blk_lt h.blk) h1).trans h.blk, h.base, h.items.block (hf.block bi h.items.lt h2), h.subs.block (hf.block bs h.subs.lt h3), h.no, fun i s x hi hs hx => by
    obtain ⟨v, e1, e2⟩ := h.yes i s x hi hs hx
    exact ⟨v, e1, e2.fr hf hM⟩, h.count⟩
theorem DictB.noByte {B : Nat} {w : World} {g bi bs : Nat} {d : DD} (h : DictB B w g bi bs d) : NoByte w (fun k => k = g ∨ k = bi) := by
  obtain ⟨n, m, fi, fs, h⟩ := h
  exact h.noByte
theorem DictB.lt {B : Nat} {w : World} {g bi bs : Nat} {d : DD} (h : DictB B w g bi bs d) : g < w.heap.size ∧ bi < w.heap.size ∧ bs < w.heap.size := by
  obtain ⟨n, m, fi, fs, h⟩ := h
  exact ⟨blk_lt h.blk, h.items.lt, h.subs.lt⟩
theorem DictB.ge {B : Nat} {w : World} {g bi bs : Nat} {d : DD} (h : DictB B w g bi bs d) : B ≤ g ∧ B ≤ bi ∧ B ≤ bs := by
  obtain ⟨n, m, fi, fs, h⟩ := h
  exact ⟨h.base.1, h.base.2.1, h.base.2.2.1⟩
theorem DictB.fr {M : Nat → Prop} {B : Nat} {w w' : World} {g bi bs : Nat} {d : DD} (h : DictB B w g bi bs d) (hf : Fr M w w') (hM : NoByte w M) (h1 : ¬ M g) (h2 : ¬ M bi) (h3 : ¬ M bs) : DictB B w' g bi bs d := by
  obtain ⟨n, m, fi, fs, h⟩ := h
  exact ⟨n, m, fi, fs, h.fr hf hM h1 h2 h3⟩
section
variable {H : Type} {enc : TypeId × Value → H} {W : World} {held : Bool}
set_option maxRecDepth 100000 in
/-- One value. -/
theorem open_vl {fuel : Nat} {cs : List Value} {d : DataW H} {p : List MemPlace} (h : DataW.trod enc Tryd.prog W 0 (fun _ => true) held fuel 36 cs = some (d, p)) (hwt : ∀ n ∈ d.weights Tryd.prog 36, n ≤ reachBytes) :
    ∃ (x : Vl) (v : Value), cs = [.int .u16 x.1.1, .int .u8 x.1.2, v] ∧ ArgV W v x.2 ∧ (0 ≤ x.1.1 ∧ x.1.1 < 65536) ∧ (0 ≤ x.1.2 ∧ x.1.2 < 256) := by
  obtain ⟨xs, n, rfl, hx, hcl, hxl, hf⟩ := DataW.trod_struct Tryd.underlying36 h
  rw [cells_vl] at hcl
  match xs, hxl, cs, hcl with
  | [y0, y1], _, [c0, c1, c2], _ =>
    have g0 := hf 0 _ rfl
    have g1 := hf 1 _ rfl
    simp [cells_place, cells_bs] at g0 g1
    obtain ⟨i, s, e, hi, hs⟩ := open_place g0
    simp only [List.cons.injEq, and_true] at e
    obtain ⟨rfl, rfl⟩ := e
    obtain ⟨hd, _⟩ := Prod.mk.inj hx
    subst hd
    obtain ⟨d1, p1⟩ := y1
    obtain ⟨zs, hz⟩ := open_bs g1 (fun n hn => hwt n (by
      simp only [DataW.weights, Tryd.underlying36]
      exact DataW.weights_mem_each (ts := [33, 34]) (j := 1) rfl rfl n hn))
    exact ⟨((i, s), zs), c2, rfl, hz, hi, hs⟩
/-- A row of values. -/
theorem open_vs {v : Value} {d : DataW H} {p : List MemPlace} (h : DataW.Trod enc Tryd.prog W 0 (fun _ => true) held 24 v d p) (hv : v.cells.toList = [v]) (hwt : ∀ n ∈ d.weights Tryd.prog 24, n ≤ reachBytes) :
    ∃ (l : List Vl) (A : Option Addr) (c : Nat), v = .slice A l.length c ∧ VsAt W A l ∧ (∀ x ∈ l, (0 ≤ x.1.1 ∧ x.1.1 < 65536) ∧ (0 ≤ x.1.2 ∧ x.1.2 < 256) ∧ Byt x.2) ∧ l.length ≤ 140737488355328 := by
  obtain ⟨fuel, hf⟩ := h
  rw [hv] at hf
  have h3 : reachBytes = 140737488351232 := rfl
  rcases open_slice Tryd.underlying24 hf with ⟨hcs, hx⟩ | ⟨a, len, cap, m, n, D, Pl, hcs, _, hl, hm, hmm, hx, hel⟩
  · injection hcs with hcs
    subst hcs
    exact ⟨[], none, 0, rfl, (fun j e hj => by simp at hj), (by intro x hx; cases hx), Nat.zero_le _⟩
  · injection hcs with hcs
    subst hcs
    rw [if_pos rfl] at hmm
    subst hmm
    rw [cells_vl] at hel hx
    obtain ⟨hd, -⟩ := Prod.mk.inj hx
    subst hd
    have hwl : len ≤ reachBytes := by
      have h1 := hwt _ (by
        simp only [DataW.weights, Tryd.underlying24]
        exact List.mem_cons.2 (.inl rfl))
      rw [bytes_vl] at h1
      simp only [List.length_map, List.length_range] at h1
      omega
    have each : ∀ i, i < len → ∃ q : Vl × Value, W.cells? 0 (a.add (i * 3)) 3 = some [.int .u16 q.1.1.1, .int .u8 q.1.1.2, q.2] ∧ ArgV W q.2 q.1.2 ∧ (0 ≤ q.1.1.1 ∧ q.1.1.1 < 65536) ∧ (0 ≤ q.1.1.2 ∧ q.1.1.2 < 256) := by
      intro i hi
      obtain ⟨cs', h1, h2⟩ := hel i (by omega)
      obtain ⟨x, v, rfl, r1, r2, r3⟩ := open_vl h2 (fun n hn => hwt n (by
        simp only [DataW.weights, Tryd.underlying24]
        refine List.mem_cons.2 (.inr (List.mem_append.2 (.inl ?_)))
        exact mem_weightsAll (List.mem_map.2 ⟨i, List.mem_range.2 hi, rfl⟩) hn))
      exact ⟨(x, v), h1, r1, r2, r3⟩
    haveI : Inhabited (Vl × Value) := ⟨(((0, 0), []), .int .u8 0)⟩
    obtain ⟨q, hq⟩ := choose_lt each
    have hlen : ((List.range len).map fun i => (q i).1).length = len := by simp
    refine ⟨(List.range len).map fun i => (q i).1, some a, m, by rw [hlen], fun j e hj => ?_, fun x hx => ?_, by omega⟩
    · have hjl : j < len := by have := (List.getElem?_eq_some_iff.1 hj).1; omega
      obtain ⟨h1, h2, _, _⟩ := hq j hjl
      have hxe : e = (q j).1 := by
        rw [List.getElem?_map, List.getElem?_range hjl] at hj
        exact (Option.some.inj hj).symm
      subst hxe
      obtain ⟨_, _, hcell⟩ := World.cells?_some h1
      have f : ∀ (i : Nat) u, 0 < i → i < 3 → [Value.int .u16 (q j).1.1.1, .int .u8 (q j).1.1.2, (q j).2][i]? = some u → W.cell? ⟨(a.add (j * 3)).block, (a.add (j * 3)).off + i, none⟩ = some u := fun i u h0 hi hu => by
        have h5 := hcell i (by simpa using hi)
        rw [← add_field _ _ i h0, ← Go.Deep.add_add]
        first | exact h5.trans hu | (rw [h5]; exact hu)
      obtain ⟨A1, a1, e1, h4⟩ := h2
      refine ⟨a, A1, a1, rfl, ?_, f 1 _ (by omega) (by omega) rfl, f 2 _ (by omega) (by omega) (by rw [e1]; rfl), ⟨A1, a1, rfl, h4⟩⟩
      have h5 := hcell 0 (by simp)
      rw [Go.Deep.add_add, Nat.add_zero] at h5
      simpa using h5
    · obtain ⟨i, hi, rfl⟩ := List.mem_map.1 hx
      obtain ⟨_, h2, h3, h4⟩ := hq i (List.mem_range.1 hi)
      exact ⟨h3, h4, h2.byt⟩
end
end Go.Proofs.YtokebpeplopjhaaDoor.Mp
namespace Go.Proofs.YtokebpeplopjhaaDoor.Mp
open Go.RowKit Go.Shelf Go.Proofs.YtokebpeplopjhaaDoor.Rng Go.Proofs.YtokebpeplopjhaaDoorW.PrintWords Go.Proofs.YtokebpeplopjhaaDoorW.PrintMore Go.Proofs.YtokebpeplopjhaaDoorW.PrintLast

theorem MsAt.frM {M : Nat → Prop} {w w' : World} {A : Option Addr} {l : List Mp} (h : MsAt w A l) (hf : Fr M w w') (hM : NoByte w M) : MsAt w' A l := by
  intro j m hj
  obtain ⟨ad, hA, q1, q2, q3⟩ := h j m hj
  have hbk : ¬ M (ad.add (j * 3)).block := fun hm => hM ⟨(ad.add (j * 3)).block, (ad.add (j * 3)).off + 1, none⟩ _ hm q2
  exact ⟨ad, hA, hf.cell q1 hbk, hf.cell q2 hbk, hf.cell q3 hbk⟩
theorem MsN.frM {M : Nat → Prop} {g : Nat} {w w' : World} {v : Value} {l : List Mp} (h : MsN g w v l) (hf : Fr M w w') (hM : NoByte w M) : MsN g w' v l := by
  obtain ⟨A, c, e, h1, h2⟩ := h
  exact ⟨A, c, e, h1.frM hf hM, h2⟩
theorem ArgN.frM {M : Nat → Prop} {g : Nat} {w w' : World} {v : Value} {l : List Int} (h : ArgN g w v l) (hf : Fr M w w') (hM : NoByte w M) : ArgN g w' v l := by
  obtain ⟨A, c, e, h1, h2, h3⟩ := h
  exact ⟨A, c, e, h1.fr hf hM, h2, h3⟩
theorem PrAt.frM {M : Nat → Prop} {w w' : World} {g : Nat} {vd : Value} {os : Nat → Ob} {vm vb : Nat → Value} {goes : Bool} {now : Int} (h : PrAt w g vd os vm vb goes now) (hf : Fr M w w') (hM : NoByte w M) (hg : ¬ M g) : PrAt w' g vd os vm vb goes now :=
  ⟨hf.cell h.d0 hg, fun i hi j u hu => hf.cell (h.ob i hi j u hu) hg, hf.cell h.gs hg, hf.cell h.nw hg, fun k => (World.frozen?_of_block (a := ⟨g, k, none⟩) (hf.block g h.lt hg)).trans (h.fz k), fun i hi => (h.ms i hi).frM hf hM, fun i hi => (h.bs i hi).frM hf hM⟩
/-- A producer that goes, over a dictionary of one entry. -/
structure P1 (B : Nat) (w : World) (g gd bi bs : Nat) (b : Int) (c : Cm) (s : Bool) (bts : List Int) (a k : Int) (bg : Bool) : Prop where
  ex : ∃ d os vm vb n0, PrAt w g (.pointer (some ⟨gd, 0, none⟩)) os vm vb true n0 ∧ DictB B w gd bi bs d ∧ OneD d b ∧ OneP os (obI c s bts a k bg)
  ne : gd ≠ g ∧ bi ≠ g ∧ bs ≠ g
  ge : B ≤ g
theorem P1.below {B : Nat} {w w' : World} {g gd bi bs : Nat} {b : Int} {c : Cm} {s : Bool} {bts : List Int} {a k : Int} {bg : Bool} (h : P1 B w g gd bi bs b c s bts a k bg) (hb : Below w.heap.size w w') : P1 B w' g gd bi bs b c s bts a k bg := by
  obtain ⟨⟨d, os, vm, vb, n0, h1, h2, h3, h4⟩, h5, h6⟩ := h
  exact ⟨⟨d, os, vm, vb, n0, h1.below hb, h2.below hb, h3, h4⟩, h5, h6⟩
theorem P1.byt {B : Nat} {w : World} {g gd bi bs : Nat} {b : Int} {c : Cm} {s : Bool} {bts : List Int} {a k : Int} {bg : Bool} (h : P1 B w g gd bi bs b c s bts a k bg) : 0 ≤ b ∧ b < 256 := by
  obtain ⟨⟨d, os, vm, vb, n0, h1, h2, h3, h4⟩, h5, h6⟩ := h
  exact h3.byt
/-- One frame, of the object's identifier and a byte. -/
def FrOne (w : World) (A : Option Addr) (b : Int) : Prop := kI.C w A 1 [[.int .u16 385, .int .i64 1, .int .u8 b, .int .u8 0, .int .u8 0, .int .u8 0, .int .u8 0, .int .u8 0, .int .u8 0, .int .u8 0, .bool false]]
def TickYes (B : Nat) (w : World) (g gd bi bs : Nat) (b : Int) (c : Cm) (now k : Int) (bg : Bool) (e : Ending) (w' : World) : Prop := ∃ A cc, e = .returned (.slice A 1 cc) ∧ FrOne w' A b ∧ P1 B w' g gd bi bs b c true [b] now k bg ∧ Fr (fun k => k = g ∨ k = gd ∨ k = bi) w w'
def TickNo (B : Nat) (w : World) (g gd bi bs : Nat) (b : Int) (c : Cm) (s : Bool) (bts : List Int) (a k : Int) (bg : Bool) (e : Ending) (w' : World) : Prop := ∃ A cc, e = .returned (.slice A 0 cc) ∧ P1 B w' g gd bi bs b c s bts a k bg ∧ Fr (fun k => k = g ∨ k = gd ∨ k = bi) w w'
theorem fr_belowB {M : Nat → Prop} {B : Nat} {w w' : World} (h : Fr M w w') (hB : B ≤ w.heap.size) (hM : ∀ k, k < B → ¬ M k) : Below B w w' := h.below (fun k hk => ⟨Nat.lt_of_lt_of_le hk hB, hM k hk⟩)
theorem P1.bel {B : Nat} {w w0 w' : World} {g gd bi bs : Nat} {b : Int} {c : Cm} {s : Bool} {bts : List Int} {a k : Int} {bg : Bool} (h : P1 B w g gd bi bs b c s bts a k bg) (hf : Fr (fun k => k = g ∨ k = gd ∨ k = bi) w0 w') (hB : B ≤ w0.heap.size) : Below B w0 w' := by
  obtain ⟨⟨d, os, vm, vb, n0, h1, h2, h3, h4⟩, h5, h6⟩ := h
  have hge := h2.ge
  exact fr_belowB hf hB (fun k hk e => by rcases e with e | e | e <;> omega)
theorem tick_yes {B : Nat} {w : World} {g gd bi bs : Nat} {b : Int} {c : Cm} {s : Bool} {bts : List Int} {a k : Int} {bg : Bool} (h : P1 B w g gd bi bs b c s bts a k bg) (ht : TblB B w) (hc : c.on = true ∧ 254 ≤ c.kind) (hi : c.id = 385) (now : Int) (hn : 0 ≤ now ∧ now ≤ 1000000) (ha : 0 ≤ a ∧ a ≤ 1000000) (hs : sndC c s bts a b now = true) :
    Calls Tryd.prog 45 #[.pointer (some ⟨g, 0, none⟩), .int .i64 now] w (TickYes B w g gd bi bs b c now k bg) := by
  obtain ⟨⟨d, os, vm, vb, n0, h1, h2, h3, h4⟩, h5, h6⟩ := h
  have hgl := h1.lt
  have htk := (tick_one (s := s) (bts := bts) (k := k) (bg := bg) h3 hc now hn ha).trans hs
  rw [← h4.at0] at htk
  refine (pTick_any B g gd bi bs d os vm vb n0 now w h1 h2 h5 h3.good ht h6 h4.maps_ok (h4.id_ok (by omega)) ⟨by omega, by omega⟩).mono ?_
  rintro e w' ⟨A, cc, rfl, q1, ⟨vb', q2⟩, q3, q4⟩
  have hF := eachF_one (fun x => tickC (some d) x now) (some d) os (fun k h0 hk => by rw [(h4.off k h0 hk).1]; rfl)
  rw [if_pos ⟨by rw [h4.at0]; exact hc.1, htk⟩] at hF
  rw [hF] at q1 ⊢
  have hO := (eachO_one (is := fun x => tickC (some d) x now) (o := some d) (now := now) h4 hc.1).1 htk
  rw [h3.pack] at hO
  refine ⟨A, cc, rfl, ?_, ⟨⟨d, _, vm, vb', now, q2, h2.kp q3 q4 h5.1 h5.2.1 h5.2.2, h3, hO⟩, h5, h6⟩, q3.mono (fun k e => .inl e)⟩
  have q1' : kI.C w' A 1 [(frC (some d) (os 0)).cells.toList] := q1
  rw [h4.at0, frC_one h3 hi] at q1'
  exact q1'
theorem tick_no {B : Nat} {w : World} {g gd bi bs : Nat} {b : Int} {c : Cm} {s : Bool} {bts : List Int} {a k : Int} {bg : Bool} (h : P1 B w g gd bi bs b c s bts a k bg) (ht : TblB B w) (hc : c.on = true ∧ 254 ≤ c.kind) (hi : c.id = 385) (now : Int) (hn : 0 ≤ now ∧ now ≤ 1000000) (ha : 0 ≤ a ∧ a ≤ 1000000) (hs : sndC c s bts a b now = false) :
    Calls Tryd.prog 45 #[.pointer (some ⟨g, 0, none⟩), .int .i64 now] w (TickNo B w g gd bi bs b c s bts a k bg) := by
  obtain ⟨⟨d, os, vm, vb, n0, h1, h2, h3, h4⟩, h5, h6⟩ := h
  have hgl := h1.lt
  have htk := (tick_one (s := s) (bts := bts) (k := k) (bg := bg) h3 hc now hn ha).trans hs
  rw [← h4.at0] at htk
  refine (pTick_any B g gd bi bs d os vm vb n0 now w h1 h2 h5 h3.good ht h6 h4.maps_ok (h4.id_ok (by omega)) ⟨by omega, by omega⟩).mono ?_
  rintro e w' ⟨A, cc, rfl, q1, ⟨vb', q2⟩, q3, q4⟩
  have hF := eachF_one (fun x => tickC (some d) x now) (some d) os (fun k h0 hk => by rw [(h4.off k h0 hk).1]; rfl)
  rw [if_neg (fun hh => by rw [htk] at hh; exact absurd hh.2 (by decide))] at hF
  rw [hF] at q1 ⊢
  have hO := (eachO_one (is := fun x => tickC (some d) x now) (o := some d) (now := now) h4 hc.1).2 htk
  exact ⟨A, cc, rfl, ⟨⟨d, _, vm, vb', now, q2, h2.kp q3 q4 h5.1 h5.2.1 h5.2.2, h3, hO⟩, h5, h6⟩, q3.mono (fun k e => .inl e)⟩
def WrtOne (B : Nat) (w : World) (g gd bi bs : Nat) (b : Int) (c : Cm) (s : Bool) (bts : List Int) (a k : Int) (bg : Bool) (e : Ending) (w' : World) : Prop := e = .returned (.int .u32 0) ∧ P1 B w' g gd bi bs b c s bts a k bg ∧ Fr (fun k => k = g ∨ k = gd ∨ k = bi) w w'
theorem write_one {B : Nat} {w : World} {g gd bi bs : Nat} {b : Int} {c : Cm} {s : Bool} {bts : List Int} {a k : Int} {bg : Bool} (h : P1 B w g gd bi bs b c s bts a k bg) (ht : TblB B w) (A : Option Addr) (cc : Nat) (b' : Int) (hb : ArgV w (.slice A 1 cc) [b']) :
    Calls Tryd.prog 20 #[.pointer (some ⟨gd, 0, none⟩), pl 24576 1, .slice A 1 cc] w (WrtOne B w g gd bi bs b' c s bts a k bg) := by
  obtain ⟨⟨d, os, vm, vb, n0, h1, h2, h3, h4⟩, h5, h6⟩ := h
  have hgl := h1.lt
  have hb' : 0 ≤ b' ∧ b' < 256 := hb.byt b' (by simp)
  refine (write_any B gd bi bs d h3.good 24576 1 (by omega) (by omega) A cc [b'] w h2 ht.tbl hb).mono ?_
  rintro e w' ⟨rfl, q1, q2⟩
  rw [h3.may b']
  have hge := h2.ge
  exact ⟨rfl, ⟨⟨_, os, vm, vb, n0, h1.frM q2 h2.noByte (by rintro (e | e); exact h5.1 e.symm; exact h5.2.1 e.symm), q1, h3.write hb', h4⟩, h5, h6⟩, q2.mono (fun k e => .inr e)⟩
end Go.Proofs.YtokebpeplopjhaaDoor.Mp
