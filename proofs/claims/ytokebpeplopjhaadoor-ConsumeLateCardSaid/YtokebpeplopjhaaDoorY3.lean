/- Floats compared. cmp.Or over two numbers; times in order. types.Compare: the order of two values. -/
import Derived.Test.YtokebpeplopjhaaDoorY2
namespace Go.Proofs.YtokebpeplopjhaaDoor.Mp
open Go.RowKit Go.Shelf Go.Proofs.YtokebpeplopjhaaDoor.Rng Go.Proofs.YtokebpeplopjhaaDoorW.PrintWords Go.Proofs.YtokebpeplopjhaaDoorW.PrintMore Go.Proofs.YtokebpeplopjhaaDoor.Num

theorem order_self (d : Ieee.Datum) : d.order d = some .eq ∨ ∃ s f, d = .nan s f := by
  cases d with
  | nan s f => exact .inr ⟨s, f, rfl⟩
  | infinity s => exact .inl (by cases s <;> rfl)
  | number s m e => exact .inl (by simp [Ieee.Datum.order])
theorem nan_self {X : Nat} (h : ordF X X ≠ some .eq) (Y : Nat) : ordF X Y = none ∧ ordF Y X = none := by
  rcases order_self (Ieee.double.read X) with h1 | ⟨s, f, h1⟩
  · exact absurd h1 h
  · constructor
    · show (Ieee.double.read X).order (Ieee.double.read Y) = none
      rw [h1]
      rfl
    · show (Ieee.double.read Y).order (Ieee.double.read X) = none
      rw [h1]
      cases Ieee.double.read Y <;> rfl
theorem wide_self {y : Nat} (h : (FloatKind.f32.decode y).isNaN = false) : ordF (wideF y) (wideF y) = some .eq := by
  rcases order_self (Ieee.double.read (wideF y)) with h1 | ⟨s, f, h1⟩
  · exact h1
  · unfold wideF at h1
    cases hd : FloatKind.f32.decode y with
    | nan s f => rw [hd] at h; cases h
    | infinity s =>
      have h2 := (double_inf s).1
      rw [hd] at h1
      exact absurd (h2.symm.trans h1) (by simp)
    | number s m e =>
      obtain ⟨h3, h4, h5⟩ := single_number (show Ieee.single.read y = .number s m e from hd)
      rw [hd] at h1
      by_cases hm : m = 0
      · subst hm
        exact absurd ((double_zero s e).1.symm.trans h1) (by simp)
      · exact absurd ((double_number s m e (by omega) h3 ⟨h4, h5⟩).1.symm.trans h1) (by simp)
/-- types.real, of any float. -/
theorem real_any (A : Option Addr) (c : Nat) (zs : List Int) (w : World) (hz : Rd w A zs) (hb : Byt zs) (hl : zs.length = 4 ∨ zs.length = 8) :
    Calls Tryd.prog 133 #[.slice A zs.length c] w fun e w' => ∃ X, e = .returned (.float .f64 X) ∧ (nanF zs → ∀ Y, ordF X Y = none ∧ ordF Y X = none) ∧ (¬ nanF zs → X = bitF zs ∧ X < 18446744073709551616 ∧ ordF X X = some .eq) ∧ Below w.heap.size w w' := by
  have h0 := num_nonneg hb
  have h1 := num_lt hb
  rcases hl with hl | hl
  · by_cases hn : nanF zs
    · rw [hl]
      exact (real_n A c zs w hz hb hl hn).mono fun e w' ⟨X, he, hX, hB⟩ => ⟨X, he, fun _ => hX, fun h => absurd hn h, hB⟩
    · rw [hl]
      have hn' := hn
      unfold nanF at hn'
      rw [if_pos hl, Bool.not_eq_true] at hn'
      exact (real_4 A c zs w hz hb hl hn).mono fun e w' ⟨he, hB⟩ => ⟨_, he, fun h => absurd h hn, fun _ => ⟨by unfold bitF; rw [if_pos hl], (wide_bits hn').2, wide_self hn'⟩, hB⟩
  · rw [hl]
    have h8 : ¬ zs.length = 4 := by omega
    refine (real_8 A c zs w hz hb hl).mono fun e w' ⟨he, hB⟩ => ⟨_, he, fun h => ?_, fun h => ?_, hB⟩
    · unfold nanF at h
      rw [if_neg h8] at h
      exact nan_self h
    · unfold nanF at h
      rw [if_neg h8] at h
      refine ⟨by unfold bitF; rw [if_neg h8], ?_, Classical.not_not.1 h⟩
      rw [hl] at h1
      have h2 : (256 : Int) ^ 8 = 18446744073709551616 := by decide
      omega
/-- Two floats that are none of NaN, in order; the sign of 1 alone. -/
def f3 (X Y : Nat) : Int := if ordF X Y = some .lt then -1 else if ordF X Y = some .gt then 1 else 0
def csn (X : Nat) : Nat := if X < 9223372036854775808 then 4607182418800017408 else 13830554455654793216
def fcmp (X Y : Nat) : Int := if ordF X 0 = some .eq ∧ ordF Y 0 = some .eq then f3 (csn X) (csn Y) else f3 X Y
def fltC (a b : List Int) : Int × Bool := if nanF a ∨ nanF b then (0, false) else (fcmp (bitF a) (bitF b), true)
theorem bne_of {a : Option Ordering} (h : a = some .eq) : (a != some .eq) = false := by subst h; rfl
theorem bne_none {a : Option Ordering} (h : a = none) : (a != some .eq) = true := by subst h; rfl
set_option maxRecDepth 100000 in
theorem isnan_f (X : Nat) (w : World) : Calls Tryd.prog 151 #[.float .f64 X] w fun e w' => e = .returned (.bool (ordF X X != some .eq)) ∧ w' = w := by
  go_enter Tryd.func151, Tryd.ntmps151
  go_wp2
  go_ret
  exact ⟨rfl, rfl⟩
set_option maxRecDepth 100000 in
theorem misnan_f (X : Nat) (w : World) : Calls Tryd.prog 134 #[.float .f64 X] w fun e w' => e = .returned (.bool (ordF X X != some .eq)) ∧ w' = w := by
  go_enter Tryd.func134, Tryd.ntmps134
  go_wp2
  go_ret
  exact ⟨rfl, rfl⟩
theorem isnan_no {X : Nat} (h : ordF X X = some .eq) (w : World) : Calls Tryd.prog 151 #[.float .f64 X] w fun e w' => e = .returned (.bool false) ∧ w' = w :=
  (isnan_f X w).mono fun e w' ⟨he, hw⟩ => ⟨by rw [he, bne_of h], hw⟩
theorem misnan_no {X : Nat} (h : ordF X X = some .eq) (w : World) : Calls Tryd.prog 134 #[.float .f64 X] w fun e w' => e = .returned (.bool false) ∧ w' = w :=
  (misnan_f X w).mono fun e w' ⟨he, hw⟩ => ⟨by rw [he, bne_of h], hw⟩
theorem misnan_yes {X : Nat} (h : ordF X X = none) (w : World) : Calls Tryd.prog 134 #[.float .f64 X] w fun e w' => e = .returned (.bool true) ∧ w' = w :=
  (misnan_f X w).mono fun e w' ⟨he, hw⟩ => ⟨by rw [he, bne_none h], hw⟩
set_option maxRecDepth 100000 in
theorem compare_f (X Y : Nat) (hX : ordF X X = some .eq) (hY : ordF Y Y = some .eq) (w : World) : Calls Tryd.prog 135 #[.float .f64 X, .float .f64 Y] w fun e w' => e = .returned (.int .i64 (f3 X Y)) ∧ w' = w := by
  obtain ⟨r, hr⟩ : ∃ r, f3 X Y = r := ⟨_, rfl⟩
  rw [hr]
  unfold f3 at hr
  have HX := Aside0.mk fun w => isnan_no hX w
  have HY := Aside0.mk fun w => isnan_no hY w
  clear hX hY
  by_cases h1 : ordF X Y = some .lt
  · rw [if_pos h1] at hr
    subst hr
    have h2 : (FloatKind.f64.format.order X Y == some .lt) = true := by rw [show FloatKind.f64.format.order X Y = some .lt from h1]; rfl
    clear h1
    go_enter Tryd.func135, Tryd.ntmps135
    go_wp2_with (go_at_call 151; first | (refine (HX.out _).mono ?_; rintro e w1 ⟨rfl, rfl⟩) | (refine (HY.out _).mono ?_; rintro e w1 ⟨rfl, rfl⟩))
    go_ret
    exact ⟨rfl, rfl⟩
  · rw [if_neg h1] at hr
    have h2 : (FloatKind.f64.format.order X Y == some .lt) = false := by simpa using h1
    clear h1
    by_cases h1 : ordF X Y = some .gt
    · rw [if_pos h1] at hr
      subst hr
      have h3 : (FloatKind.f64.format.order X Y == some .gt) = true := by rw [show FloatKind.f64.format.order X Y = some .gt from h1]; rfl
      clear h1
      go_enter Tryd.func135, Tryd.ntmps135
      go_wp2_with (go_at_call 151; first | (refine (HX.out _).mono ?_; rintro e w1 ⟨rfl, rfl⟩) | (refine (HY.out _).mono ?_; rintro e w1 ⟨rfl, rfl⟩))
      go_ret
      exact ⟨rfl, rfl⟩
    · rw [if_neg h1] at hr
      subst hr
      have h3 : (FloatKind.f64.format.order X Y == some .gt) = false := by simpa using h1
      clear h1
      go_enter Tryd.func135, Tryd.ntmps135
      go_wp2_with (go_at_call 151; first | (refine (HX.out _).mono ?_; rintro e w1 ⟨rfl, rfl⟩) | (refine (HY.out _).mono ?_; rintro e w1 ⟨rfl, rfl⟩))
      go_ret
      exact ⟨rfl, rfl⟩
theorem ret_f {k : FloatKind} {a b : Nat} (h : a = b) : Ending.returned (.float k a) = .returned (.float k b) := by rw [h]
theorem sign_bit (X : Nat) (hX : X < 18446744073709551616) : bits .and .u64 (X : Int) 9223372036854775808 = if X < 9223372036854775808 then 0 else 9223372036854775808 := by
  have h := bits_and_u64_nat X 9223372036854775808 hX (by omega)
  rw [show ((9223372036854775808 : Nat) : Int) = 9223372036854775808 from rfl] at h
  rw [h]
  have e2 : (9223372036854775808 : Nat) = 2 ^ 63 := by decide +kernel
  split
  · rename_i hlt
    have hb : X.testBit 63 = false := Nat.testBit_lt_two_pow (by omega)
    have : X &&& 9223372036854775808 = 0 := by
      apply Nat.eq_of_testBit_eq
      intro i
      rw [e2, Nat.testBit_and, Nat.testBit_two_pow, Nat.zero_testBit]
      by_cases hi : 63 = i
      · subst hi
        rw [hb]
        rfl
      · simp [hi]
    rw [this]
    rfl
  · rename_i hge
    have hb : X.testBit 63 = true := Nat.testBit_of_two_pow_le_and_two_pow_add_one_gt (by omega) (by omega)
    have : X &&& 9223372036854775808 = 9223372036854775808 := by
      apply Nat.eq_of_testBit_eq
      intro i
      rw [e2, Nat.testBit_and, Nat.testBit_two_pow]
      by_cases hi : 63 = i
      · subst hi
        rw [hb]
        rfl
      · simp [hi]
    rw [this]
    rfl
theorem csn_self (X : Nat) : ordF (csn X) (csn X) = some .eq := by
  unfold csn
  split <;> decide +kernel
set_option maxRecDepth 100000 in
theorem copysign_any (X : Nat) (hX : X < 18446744073709551616) (w : World) : Calls Tryd.prog 136 #[.float .f64 4607182418800017408, .float .f64 X] w fun e w' => e = .returned (.float .f64 (csn X)) ∧ w' = w := by
  have t1 := tobits64 4607182418800017408
  have t2 := tobits64 X
  have f1 := frombits64
  go_enter Tryd.func136, Tryd.ntmps136
  go_wp2
  go_ret
  refine ⟨ret_f ?_, rfl⟩
  show (bits .or .u64 (bits .andNot .u64 4607182418800017408 9223372036854775808) (bits .and .u64 (X : Int) 9223372036854775808)).toNat = csn X
  rw [show bits .andNot .u64 4607182418800017408 9223372036854775808 = 4607182418800017408 by decide +kernel, sign_bit X hX]
  unfold csn
  split
  · decide +kernel
  · decide +kernel
end Go.Proofs.YtokebpeplopjhaaDoor.Mp
namespace Go.Proofs.YtokebpeplopjhaaDoor.Mp
open Go.RowKit Go.Shelf Go.Proofs.YtokebpeplopjhaaDoor.Rng Go.Proofs.YtokebpeplopjhaaDoorW.PrintWords Go.Proofs.YtokebpeplopjhaaDoorW.PrintMore Go.Proofs.YtokebpeplopjhaaDoorW.PrintLast

def or2 (p q : Int) : Int := if p ≠ 0 then p else q
set_option maxRecDepth 100000 in
set_option maxHeartbeats 1000000 in
theorem or_any (p q : Int) (g : Nat) (t : TypeId) (w : World) (hb : w.heap[g]? = some (.cells #[.int .i64 p, .int .i64 q] t (0, 0))) :
    Calls Tryd.prog 137 #[.slice (some ⟨g, 0, none⟩) 2 2] w fun e w' => e = .returned (.int .i64 (or2 p q)) ∧ w' = w := by
  have h0 := blk_cell hb 0
  have h1 := blk_cell hb 1
  simp at h0 h1
  obtain ⟨r, hr⟩ : ∃ r, or2 p q = r := ⟨_, rfl⟩
  rw [hr]
  unfold or2 at hr
  by_cases hp : p = 0
  · subst hp
    rw [if_neg (by simp)] at hr
    subst hr
    by_cases hq : q = 0
    · subst hq
      go_enter Tryd.func137, Tryd.ntmps137
      go_wp2
      go_loop [5, 8] (fun _ i => ∃ k : Nat, k ≤ 2 ∧ i = .int .i64 k) (fun _ i => 2 - (intOf i).toNat)
      case atStart => exact ⟨0, by omega, rfl⟩
      case round =>
        obtain ⟨k, hk, rfl⟩ := hrel
        match k, hk with
        | 0, _ =>
          go_wp2
          go_round
          case rel => exact ⟨1, by omega, by go_num⟩
          case measure => simp [intOf]
        | 1, _ =>
          go_wp2
          go_round
          case rel => exact ⟨2, by omega, by go_num⟩
          case measure => simp [intOf]
        | 2, _ =>
          go_wp2
          go_ret
          exact ⟨rfl, rfl⟩
    · have hq1 : (q == 0) = false := by simpa using hq
      have hq2 : (q != 0) = true := by simpa using hq
      go_enter Tryd.func137, Tryd.ntmps137
      go_wp2
      go_loop [5, 8] (fun _ i => ∃ k : Nat, k ≤ 1 ∧ i = .int .i64 k) (fun _ i => 2 - (intOf i).toNat)
      case atStart => exact ⟨0, by omega, rfl⟩
      case round =>
        obtain ⟨k, hk, rfl⟩ := hrel
        match k, hk with
        | 0, _ =>
          go_wp2
          go_round
          case rel => exact ⟨1, by omega, by go_num⟩
          case measure => simp [intOf]
        | 1, _ =>
          go_wp2
          go_ret
          exact ⟨rfl, rfl⟩
  · have hq1 : (p == 0) = false := by simpa using hp
    have hq2 : (p != 0) = true := by simpa using hp
    rw [if_pos hp] at hr
    subst hr
    go_enter Tryd.func137, Tryd.ntmps137
    go_wp2
    go_loop [5, 8] (fun _ i => i = .int .i64 ((0 : Nat) : Int)) (fun _ i => 2 - (intOf i).toNat)
    case atStart => rfl
    case round =>
      obtain rfl := hrel
      go_wp2
      go_ret
      exact ⟨rfl, rfl⟩
end Go.Proofs.YtokebpeplopjhaaDoor.Mp
namespace Go.Proofs.YtokebpeplopjhaaDoor.Mp
open Go.RowKit Go.Shelf Go.Proofs.YtokebpeplopjhaaDoor.Rng Go.Proofs.YtokebpeplopjhaaDoorW.PrintWords Go.Proofs.YtokebpeplopjhaaDoorW.PrintMore Go.Proofs.YtokebpeplopjhaaDoorW.PrintLast Go.Proofs.YtokebpeplopjhaaDoor.Num

/-- The order of two values; is there one? -/
def cmpC (t : Int) (a b : List Int) : Int × Bool :=
  if plainC t a ≠ 0 ∨ plainC t b ≠ 0 then (0, false) else if knd t = 6 then (0, false) else if knd t = 2 then (cmp3 (wholeC a) (wholeC b), true)
  else if knd t = 4 then fltC a b else if knd t = 5 then (or2 (cmp3 (num (a.drop 4)) (num (b.drop 4))) (cmp3 (num (a.take 4)) (num (b.take 4))), true)
  else (cmp3 (num a) (num b), true)
section
variable (t : Int) (ht : 0 ≤ t ∧ t < 256) (A : Option Addr) (c : Nat) (a : List Int) (B : Option Addr) (d : Nat) (b : List Int) (w : World)
/-- What Compare tells. -/
def CmpSaid (w : World) (v : Int × Bool) (e : Ending) (w' : World) : Prop := e = .returned (.tuple #[.int .i64 v.1, .bool v.2]) ∧ Below w.heap.size w w'
set_option maxRecDepth 100000 in
set_option maxHeartbeats 2000000 in
theorem compare_pa (ht : 0 ≤ t ∧ t < 256) (h : Tbl w) (hza : Rd w A a) (hya : Byt a) (hca : a.length ≤ c) (hcc : c ≤ 9223372036854775807) (hzb : Rd w B b) (hyb : Byt b) (hcb : b.length ≤ d) (hdd : d ≤ 9223372036854775807) (hp : plainC t a ≠ 0) :
    Calls Tryd.prog 117 #[.int .u8 t, .slice A a.length c, .slice B b.length d] w (CmpSaid w (0, false)) := by
  have HPA := Aside0.mk (plain_any t ht A c a w h hza hya hca hcc)
  have HPB := Aside0.mk fun W (hW : Below w.heap.size w W) => plain_any t ht B d b W (h.below hW) (hzb.below hW) hyb hcb hdd
  have K := Aside0.mk fun W (hW : Below w.heap.size w W) => (Tbl.below h hW).at_ ht
  have HZA := Aside0.mk hza
  have HZB := Aside0.mk hzb
  clear h hza hzb
  obtain ⟨r, hr⟩ : ∃ r, plainC t a = r := ⟨_, rfl⟩
  rw [hr] at hp HPA
  have hp1 : (r == 0) = false := by simpa using hp
  have hp2 : (r != 0) = true := by simpa using hp
  clear hr hp HPB
  go_enter Tryd.func117, Tryd.ntmps117
  go_wp2_with (first
    | (go_at_call 115; refine HPA.out.mono ?_; rintro e w1 ⟨rfl, hb1⟩; have HB1 := Aside0.mk hb1; clear hb1 HPA)
    | (go_at_call 115; refine (HPB.out _ HB1.out).mono ?_; rintro e w2 ⟨rfl, hb2⟩; have HB2 := Aside0.mk (HB1.out.trans (hb2.mono HB1.out.size)); clear hb2 HPB; obtain ⟨bm, hcell, hl⟩ := K.out _ HB2.out; have hf0 := fun k n => (fields_form k n).1))
  go_ret2
  exact ⟨rfl, HB1.out⟩
set_option maxRecDepth 100000 in
set_option maxHeartbeats 2000000 in
theorem compare_pb (ht : 0 ≤ t ∧ t < 256) (h : Tbl w) (hza : Rd w A a) (hya : Byt a) (hca : a.length ≤ c) (hcc : c ≤ 9223372036854775807) (hzb : Rd w B b) (hyb : Byt b) (hcb : b.length ≤ d) (hdd : d ≤ 9223372036854775807) (hq : plainC t a = 0) (hp : plainC t b ≠ 0) :
    Calls Tryd.prog 117 #[.int .u8 t, .slice A a.length c, .slice B b.length d] w (CmpSaid w (0, false)) := by
  have HPA := Aside0.mk (plain_any t ht A c a w h hza hya hca hcc)
  have HPB := Aside0.mk fun W (hW : Below w.heap.size w W) => plain_any t ht B d b W (h.below hW) (hzb.below hW) hyb hcb hdd
  have K := Aside0.mk fun W (hW : Below w.heap.size w W) => (Tbl.below h hW).at_ ht
  have HZA := Aside0.mk hza
  have HZB := Aside0.mk hzb
  clear h hza hzb
  obtain ⟨r, hr⟩ : ∃ r, plainC t b = r := ⟨_, rfl⟩
  rw [hq] at HPA
  simp only [hr] at HPB
  rw [hr] at hp
  have hp1 : (r == 0) = false := by simpa using hp
  have hp2 : (r != 0) = true := by simpa using hp
  clear hr hp
  go_enter Tryd.func117, Tryd.ntmps117
  go_wp2_with (first
    | (go_at_call 115; refine HPA.out.mono ?_; rintro e w1 ⟨rfl, hb1⟩; have HB1 := Aside0.mk hb1; clear hb1 HPA)
    | (go_at_call 115; refine (HPB.out _ HB1.out).mono ?_; rintro e w2 ⟨rfl, hb2⟩; have HB2 := Aside0.mk (HB1.out.trans (hb2.mono HB1.out.size)); clear hb2 HPB; obtain ⟨bm, hcell, hl⟩ := K.out _ HB2.out; have hf0 := fun k n => (fields_form k n).1))
  go_ret2
  exact ⟨rfl, HB2.out⟩
set_option maxRecDepth 100000 in
set_option maxHeartbeats 2000000 in
theorem compare_6 (ht : 0 ≤ t ∧ t < 256) (h : Tbl w) (hza : Rd w A a) (hya : Byt a) (hca : a.length ≤ c) (hcc : c ≤ 9223372036854775807) (hzb : Rd w B b) (hyb : Byt b) (hcb : b.length ≤ d) (hdd : d ≤ 9223372036854775807) (hq : plainC t a = 0) (hp : plainC t b = 0) (hk : knd t = 6) :
    Calls Tryd.prog 117 #[.int .u8 t, .slice A a.length c, .slice B b.length d] w (CmpSaid w (0, false)) := by
  have HPA := Aside0.mk (plain_any t ht A c a w h hza hya hca hcc)
  have HPB := Aside0.mk fun W (hW : Below w.heap.size w W) => plain_any t ht B d b W (h.below hW) (hzb.below hW) hyb hcb hdd
  have K := Aside0.mk fun W (hW : Below w.heap.size w W) => (Tbl.below h hW).at_ ht
  have HZA := Aside0.mk hza
  have HZB := Aside0.mk hzb
  clear h hza hzb
  obtain ⟨hpa0, hpa1, hpa2, -, -⟩ := plainC_0 hq
  obtain ⟨hpb0, hpb1, hpb2, -, -⟩ := plainC_0 hp
  have hsz := siz_of t
  rw [hq] at HPA
  simp only [hp] at HPB
  rw [hk] at hsz hpa2 hpb2
  simp only [hk] at K
  clear hq hp hpa0 hpb0
  clear hsz hpa2 hpb2
  go_enter Tryd.func117, Tryd.ntmps117
  go_wp2_with (first
    | (go_at_call 115; refine HPA.out.mono ?_; rintro e w1 ⟨rfl, hb1⟩; have HB1 := Aside0.mk hb1; clear hb1 HPA)
    | (go_at_call 115; refine (HPB.out _ HB1.out).mono ?_; rintro e w2 ⟨rfl, hb2⟩; have HB2 := Aside0.mk (HB1.out.trans (hb2.mono HB1.out.size)); clear hb2 HPB; obtain ⟨bm, hcell, hl⟩ := K.out _ HB2.out; have hf0 := fun k n => (fields_form k n).1))
  go_ret2
  exact ⟨rfl, HB2.out⟩
set_option maxRecDepth 100000 in
set_option maxHeartbeats 2000000 in
theorem compare_2 (ht : 0 ≤ t ∧ t < 256) (h : Tbl w) (hza : Rd w A a) (hya : Byt a) (hca : a.length ≤ c) (hcc : c ≤ 9223372036854775807) (hzb : Rd w B b) (hyb : Byt b) (hcb : b.length ≤ d) (hdd : d ≤ 9223372036854775807) (hq : plainC t a = 0) (hp : plainC t b = 0) (hk : knd t = 2) :
    Calls Tryd.prog 117 #[.int .u8 t, .slice A a.length c, .slice B b.length d] w (CmpSaid w (cmp3 (wholeC a) (wholeC b), true)) := by
  have HPA := Aside0.mk (plain_any t ht A c a w h hza hya hca hcc)
  have HPB := Aside0.mk fun W (hW : Below w.heap.size w W) => plain_any t ht B d b W (h.below hW) (hzb.below hW) hyb hcb hdd
  have K := Aside0.mk fun W (hW : Below w.heap.size w W) => (Tbl.below h hW).at_ ht
  have HZA := Aside0.mk hza
  have HZB := Aside0.mk hzb
  clear h hza hzb
  obtain ⟨hpa0, hpa1, hpa2, -, -⟩ := plainC_0 hq
  obtain ⟨hpb0, hpb1, hpb2, -, -⟩ := plainC_0 hp
  have hsz := siz_of t
  rw [hq] at HPA
  simp only [hp] at HPB
  rw [hk] at hsz hpa2 hpb2
  simp only [hk] at K
  clear hq hp hpa0 hpb0
  have hs := hsz.2.1 rfl
  have HWA := Aside0.mk fun W (hW : Below w.heap.size w W) => whole_any A c a W (HZA.out.below hW) hya (by omega)
  have HWB := Aside0.mk fun W (hW : Below w.heap.size w W) => whole_any B d b W (HZB.out.below hW) hyb (by omega)
  clear hsz hpa2 hpb2 hs
  go_enter Tryd.func117, Tryd.ntmps117
  go_wp2_with (first
    | (go_at_call 115; refine HPA.out.mono ?_; rintro e w1 ⟨rfl, hb1⟩; have HB1 := Aside0.mk hb1; clear hb1 HPA)
    | (go_at_call 115; refine (HPB.out _ HB1.out).mono ?_; rintro e w2 ⟨rfl, hb2⟩; have HB2 := Aside0.mk (HB1.out.trans (hb2.mono HB1.out.size)); clear hb2 HPB; obtain ⟨bm, hcell, hl⟩ := K.out _ HB2.out; have hf0 := fun k n => (fields_form k n).1)
    | (go_at_call 132; refine (HWA.out _ HB2.out).mono ?_; rintro e w3 ⟨rfl, hb3⟩; have HB3 := Aside0.mk (HB2.out.trans (hb3.mono HB2.out.size)); clear hb3 HWA)
    | (go_at_call 132; refine (HWB.out _ HB3.out).mono ?_; rintro e w4 ⟨rfl, hb4⟩; have HB4 := Aside0.mk (HB3.out.trans (hb4.mono HB3.out.size)); clear hb4 HWB)
    | (go_at_call 131; refine (compare_i _ _ _).mono ?_; rintro e w5 ⟨rfl, rfl⟩))
  go_ret2
  exact ⟨rfl, HB4.out⟩
set_option maxRecDepth 100000 in
set_option maxHeartbeats 2000000 in
theorem compare_1 (ht : 0 ≤ t ∧ t < 256) (h : Tbl w) (hza : Rd w A a) (hya : Byt a) (hca : a.length ≤ c) (hcc : c ≤ 9223372036854775807) (hzb : Rd w B b) (hyb : Byt b) (hcb : b.length ≤ d) (hdd : d ≤ 9223372036854775807) (hq : plainC t a = 0) (hp : plainC t b = 0) (hk : knd t = 1) :
    Calls Tryd.prog 117 #[.int .u8 t, .slice A a.length c, .slice B b.length d] w (CmpSaid w (cmp3 (num a) (num b), true)) := by
  have HPA := Aside0.mk (plain_any t ht A c a w h hza hya hca hcc)
  have HPB := Aside0.mk fun W (hW : Below w.heap.size w W) => plain_any t ht B d b W (h.below hW) (hzb.below hW) hyb hcb hdd
  have K := Aside0.mk fun W (hW : Below w.heap.size w W) => (Tbl.below h hW).at_ ht
  have HZA := Aside0.mk hza
  have HZB := Aside0.mk hzb
  clear h hza hzb
  obtain ⟨hpa0, hpa1, hpa2, -, -⟩ := plainC_0 hq
  obtain ⟨hpb0, hpb1, hpb2, -, -⟩ := plainC_0 hp
  have hsz := siz_of t
  rw [hq] at HPA
  simp only [hp] at HPB
  rw [hk] at hsz hpa2 hpb2
  simp only [hk] at K
  clear hq hp hpa0 hpb0
  have hs := hsz.1 rfl
  have HWA := Aside0.mk fun W (hW : Below w.heap.size w W) => number_any A c a W (HZA.out.below hW) hya (by omega)
  have HWB := Aside0.mk fun W (hW : Below w.heap.size w W) => number_any B d b W (HZB.out.below hW) hyb (by omega)
  clear hsz hpa2 hpb2 hs
  go_enter Tryd.func117, Tryd.ntmps117
  go_wp2_with (first
    | (go_at_call 115; refine HPA.out.mono ?_; rintro e w1 ⟨rfl, hb1⟩; have HB1 := Aside0.mk hb1; clear hb1 HPA)
    | (go_at_call 115; refine (HPB.out _ HB1.out).mono ?_; rintro e w2 ⟨rfl, hb2⟩; have HB2 := Aside0.mk (HB1.out.trans (hb2.mono HB1.out.size)); clear hb2 HPB; obtain ⟨bm, hcell, hl⟩ := K.out _ HB2.out; have hf0 := fun k n => (fields_form k n).1)
    | (go_at_call 130; refine (HWA.out _ HB2.out).mono ?_; rintro e w3 ⟨rfl, hb3⟩; have HB3 := Aside0.mk (HB2.out.trans (hb3.mono HB2.out.size)); clear hb3 HWA)
    | (go_at_call 130; refine (HWB.out _ HB3.out).mono ?_; rintro e w4 ⟨rfl, hb4⟩; have HB4 := Aside0.mk (HB3.out.trans (hb4.mono HB3.out.size)); clear hb4 HWB)
    | (go_at_call 138; refine (compare_u _ _ _).mono ?_; rintro e w5 ⟨rfl, rfl⟩))
  go_ret2
  exact ⟨rfl, HB4.out⟩
set_option maxRecDepth 100000 in
set_option maxHeartbeats 2000000 in
theorem compare_3 (ht : 0 ≤ t ∧ t < 256) (h : Tbl w) (hza : Rd w A a) (hya : Byt a) (hca : a.length ≤ c) (hcc : c ≤ 9223372036854775807) (hzb : Rd w B b) (hyb : Byt b) (hcb : b.length ≤ d) (hdd : d ≤ 9223372036854775807) (hq : plainC t a = 0) (hp : plainC t b = 0) (hk : knd t = 3) :
    Calls Tryd.prog 117 #[.int .u8 t, .slice A a.length c, .slice B b.length d] w (CmpSaid w (cmp3 (num a) (num b), true)) := by
  have HPA := Aside0.mk (plain_any t ht A c a w h hza hya hca hcc)
  have HPB := Aside0.mk fun W (hW : Below w.heap.size w W) => plain_any t ht B d b W (h.below hW) (hzb.below hW) hyb hcb hdd
  have K := Aside0.mk fun W (hW : Below w.heap.size w W) => (Tbl.below h hW).at_ ht
  have HZA := Aside0.mk hza
  have HZB := Aside0.mk hzb
  clear h hza hzb
  obtain ⟨hpa0, hpa1, hpa2, -, -⟩ := plainC_0 hq
  obtain ⟨hpb0, hpb1, hpb2, -, -⟩ := plainC_0 hp
  have hsz := siz_of t
  rw [hq] at HPA
  simp only [hp] at HPB
  rw [hk] at hsz hpa2 hpb2
  simp only [hk] at K
  clear hq hp hpa0 hpb0
  have hs := hsz.2.2.1 rfl
  have HWA := Aside0.mk fun W (hW : Below w.heap.size w W) => number_any A c a W (HZA.out.below hW) hya (by omega)
  have HWB := Aside0.mk fun W (hW : Below w.heap.size w W) => number_any B d b W (HZB.out.below hW) hyb (by omega)
  clear hsz hpa2 hpb2 hs
  go_enter Tryd.func117, Tryd.ntmps117
  go_wp2_with (first
    | (go_at_call 115; refine HPA.out.mono ?_; rintro e w1 ⟨rfl, hb1⟩; have HB1 := Aside0.mk hb1; clear hb1 HPA)
    | (go_at_call 115; refine (HPB.out _ HB1.out).mono ?_; rintro e w2 ⟨rfl, hb2⟩; have HB2 := Aside0.mk (HB1.out.trans (hb2.mono HB1.out.size)); clear hb2 HPB; obtain ⟨bm, hcell, hl⟩ := K.out _ HB2.out; have hf0 := fun k n => (fields_form k n).1)
    | (go_at_call 130; refine (HWA.out _ HB2.out).mono ?_; rintro e w3 ⟨rfl, hb3⟩; have HB3 := Aside0.mk (HB2.out.trans (hb3.mono HB2.out.size)); clear hb3 HWA)
    | (go_at_call 130; refine (HWB.out _ HB3.out).mono ?_; rintro e w4 ⟨rfl, hb4⟩; have HB4 := Aside0.mk (HB3.out.trans (hb4.mono HB3.out.size)); clear hb4 HWB)
    | (go_at_call 138; refine (compare_u _ _ _).mono ?_; rintro e w5 ⟨rfl, rfl⟩))
  go_ret2
  exact ⟨rfl, HB4.out⟩
set_option maxRecDepth 100000 in
set_option maxHeartbeats 2000000 in
theorem compare_4a (ht : 0 ≤ t ∧ t < 256) (h : Tbl w) (hza : Rd w A a) (hya : Byt a) (hca : a.length ≤ c) (hcc : c ≤ 9223372036854775807) (hzb : Rd w B b) (hyb : Byt b) (hcb : b.length ≤ d) (hdd : d ≤ 9223372036854775807) (hq : plainC t a = 0) (hp : plainC t b = 0) (hk : knd t = 4) (hna : nanF a) :
    Calls Tryd.prog 117 #[.int .u8 t, .slice A a.length c, .slice B b.length d] w (CmpSaid w (0, false)) := by
  have HPA := Aside0.mk (plain_any t ht A c a w h hza hya hca hcc)
  have HPB := Aside0.mk fun W (hW : Below w.heap.size w W) => plain_any t ht B d b W (h.below hW) (hzb.below hW) hyb hcb hdd
  have K := Aside0.mk fun W (hW : Below w.heap.size w W) => (Tbl.below h hW).at_ ht
  have HZA := Aside0.mk hza
  have HZB := Aside0.mk hzb
  clear h hza hzb
  obtain ⟨hpa0, hpa1, hpa2, -, -⟩ := plainC_0 hq
  obtain ⟨hpb0, hpb1, hpb2, -, -⟩ := plainC_0 hp
  have hsz := siz_of t
  rw [hq] at HPA
  simp only [hp] at HPB
  rw [hk] at hsz hpa2 hpb2
  simp only [hk] at K
  clear hq hp hpa0 hpb0
  have hs := hsz.2.2.2.1 rfl
  have HRA := Aside0.mk fun W (hW : Below w.heap.size w W) => real_any A c a W (HZA.out.below hW) hya (by omega)
  have HRB := Aside0.mk fun W (hW : Below w.heap.size w W) => real_any B d b W (HZB.out.below hW) hyb (by omega)
  clear hsz hpa2 hpb2 hs
  obtain ⟨xa, hxa⟩ : ∃ x, bitF a = x := ⟨_, rfl⟩
  obtain ⟨xb, hxb⟩ : ∃ x, bitF b = x := ⟨_, rfl⟩
  simp only [hxa] at HRA
  simp only [hxb] at HRB

  go_enter Tryd.func117, Tryd.ntmps117
  go_wp2_with (first
    | (go_at_call 115; refine HPA.out.mono ?_; rintro e w1 ⟨rfl, hb1⟩; have HB1 := Aside0.mk hb1; clear hb1 HPA)
    | (go_at_call 115; refine (HPB.out _ HB1.out).mono ?_; rintro e w2 ⟨rfl, hb2⟩; have HB2 := Aside0.mk (HB1.out.trans (hb2.mono HB1.out.size)); clear hb2 HPB; obtain ⟨bm, hcell, hl⟩ := K.out _ HB2.out; have hf0 := fun k n => (fields_form k n).1)
    | (go_at_call 133; refine (HRA.out _ HB2.out).mono ?_; rintro e w3 ⟨X, rfl, hn1, hn2, hb3⟩; have HB3 := Aside0.mk (HB2.out.trans (hb3.mono HB2.out.size)); clear hb3 HRA; have HNX := Aside0.mk (hn1 hna X).1; clear hn1 hn2)
    | (go_at_call 133; refine (HRB.out _ HB3.out).mono ?_; rintro e w4 ⟨Y, rfl, hm1, hm2, hb4⟩; have HB4 := Aside0.mk (HB3.out.trans (hb4.mono HB3.out.size)); clear hb4 HRB; clear hm1 hm2)
    | (go_at_call 134; refine (misnan_yes HNX.out _).mono ?_; rintro e w5 ⟨rfl, rfl⟩))
  go_ret2
  exact ⟨rfl, HB4.out⟩
set_option maxRecDepth 100000 in
set_option maxHeartbeats 2000000 in
theorem compare_4b (ht : 0 ≤ t ∧ t < 256) (h : Tbl w) (hza : Rd w A a) (hya : Byt a) (hca : a.length ≤ c) (hcc : c ≤ 9223372036854775807) (hzb : Rd w B b) (hyb : Byt b) (hcb : b.length ≤ d) (hdd : d ≤ 9223372036854775807) (hq : plainC t a = 0) (hp : plainC t b = 0) (hk : knd t = 4) (hna : ¬ nanF a) (hnb : nanF b) :
    Calls Tryd.prog 117 #[.int .u8 t, .slice A a.length c, .slice B b.length d] w (CmpSaid w (0, false)) := by
  have HPA := Aside0.mk (plain_any t ht A c a w h hza hya hca hcc)
  have HPB := Aside0.mk fun W (hW : Below w.heap.size w W) => plain_any t ht B d b W (h.below hW) (hzb.below hW) hyb hcb hdd
  have K := Aside0.mk fun W (hW : Below w.heap.size w W) => (Tbl.below h hW).at_ ht
  have HZA := Aside0.mk hza
  have HZB := Aside0.mk hzb
  clear h hza hzb
  obtain ⟨hpa0, hpa1, hpa2, -, -⟩ := plainC_0 hq
  obtain ⟨hpb0, hpb1, hpb2, -, -⟩ := plainC_0 hp
  have hsz := siz_of t
  rw [hq] at HPA
  simp only [hp] at HPB
  rw [hk] at hsz hpa2 hpb2
  simp only [hk] at K
  clear hq hp hpa0 hpb0
  have hs := hsz.2.2.2.1 rfl
  have HRA := Aside0.mk fun W (hW : Below w.heap.size w W) => real_any A c a W (HZA.out.below hW) hya (by omega)
  have HRB := Aside0.mk fun W (hW : Below w.heap.size w W) => real_any B d b W (HZB.out.below hW) hyb (by omega)
  clear hsz hpa2 hpb2 hs
  obtain ⟨xa, hxa⟩ : ∃ x, bitF a = x := ⟨_, rfl⟩
  obtain ⟨xb, hxb⟩ : ∃ x, bitF b = x := ⟨_, rfl⟩
  simp only [hxa] at HRA
  simp only [hxb] at HRB

  go_enter Tryd.func117, Tryd.ntmps117
  go_wp2_with (first
    | (go_at_call 115; refine HPA.out.mono ?_; rintro e w1 ⟨rfl, hb1⟩; have HB1 := Aside0.mk hb1; clear hb1 HPA)
    | (go_at_call 115; refine (HPB.out _ HB1.out).mono ?_; rintro e w2 ⟨rfl, hb2⟩; have HB2 := Aside0.mk (HB1.out.trans (hb2.mono HB1.out.size)); clear hb2 HPB; obtain ⟨bm, hcell, hl⟩ := K.out _ HB2.out; have hf0 := fun k n => (fields_form k n).1)
    | (go_at_call 133; refine (HRA.out _ HB2.out).mono ?_; rintro e w3 ⟨X, rfl, hn1, hn2, hb3⟩; have HB3 := Aside0.mk (HB2.out.trans (hb3.mono HB2.out.size)); clear hb3 HRA; obtain ⟨rfl, hxl, hxe⟩ := hn2 hna; have HXL := Aside0.mk hxl; have HXE := Aside0.mk hxe; clear hn1 hn2 hxl hxe)
    | (go_at_call 133; refine (HRB.out _ HB3.out).mono ?_; rintro e w4 ⟨Y, rfl, hm1, hm2, hb4⟩; have HB4 := Aside0.mk (HB3.out.trans (hb4.mono HB3.out.size)); clear hb4 HRB; have HNY := Aside0.mk (hm1 hnb Y).1; clear hm1 hm2)
    | (go_at_call 134; refine (misnan_no HXE.out _).mono ?_; rintro e w5 ⟨rfl, rfl⟩)
    | (go_at_call 134; refine (misnan_yes HNY.out _).mono ?_; rintro e w6 ⟨rfl, rfl⟩))
  go_ret2
  exact ⟨rfl, HB4.out⟩
set_option maxRecDepth 100000 in
set_option maxHeartbeats 2000000 in
theorem compare_4z (ht : 0 ≤ t ∧ t < 256) (h : Tbl w) (hza : Rd w A a) (hya : Byt a) (hca : a.length ≤ c) (hcc : c ≤ 9223372036854775807) (hzb : Rd w B b) (hyb : Byt b) (hcb : b.length ≤ d) (hdd : d ≤ 9223372036854775807) (hq : plainC t a = 0) (hp : plainC t b = 0) (hk : knd t = 4) (hna : ¬ nanF a) (hnb : ¬ nanF b) (hz : ordF (bitF a) 0 = some .eq) (hz2 : ordF (bitF b) 0 = some .eq) :
    Calls Tryd.prog 117 #[.int .u8 t, .slice A a.length c, .slice B b.length d] w (CmpSaid w (f3 (csn (bitF a)) (csn (bitF b)), true)) := by
  have HPA := Aside0.mk (plain_any t ht A c a w h hza hya hca hcc)
  have HPB := Aside0.mk fun W (hW : Below w.heap.size w W) => plain_any t ht B d b W (h.below hW) (hzb.below hW) hyb hcb hdd
  have K := Aside0.mk fun W (hW : Below w.heap.size w W) => (Tbl.below h hW).at_ ht
  have HZA := Aside0.mk hza
  have HZB := Aside0.mk hzb
  clear h hza hzb
  obtain ⟨hpa0, hpa1, hpa2, -, -⟩ := plainC_0 hq
  obtain ⟨hpb0, hpb1, hpb2, -, -⟩ := plainC_0 hp
  have hsz := siz_of t
  rw [hq] at HPA
  simp only [hp] at HPB
  rw [hk] at hsz hpa2 hpb2
  simp only [hk] at K
  clear hq hp hpa0 hpb0
  have hs := hsz.2.2.2.1 rfl
  have HRA := Aside0.mk fun W (hW : Below w.heap.size w W) => real_any A c a W (HZA.out.below hW) hya (by omega)
  have HRB := Aside0.mk fun W (hW : Below w.heap.size w W) => real_any B d b W (HZB.out.below hW) hyb (by omega)
  clear hsz hpa2 hpb2 hs
  obtain ⟨xa, hxa⟩ : ∃ x, bitF a = x := ⟨_, rfl⟩
  obtain ⟨xb, hxb⟩ : ∃ x, bitF b = x := ⟨_, rfl⟩
  simp only [hxa] at HRA
  simp only [hxb] at HRB
  rw [hxa] at hz ⊢
  rw [hxb] at hz2 ⊢
  have z1 : (FloatKind.f64.format.order xa 0 == some .eq) = true := by rw [show FloatKind.f64.format.order xa 0 = some .eq from hz]; rfl
  have z2 : (FloatKind.f64.format.order xb 0 == some .eq) = true := by rw [show FloatKind.f64.format.order xb 0 = some .eq from hz2]; rfl
  clear hz hz2 hxa hxb

  go_enter Tryd.func117, Tryd.ntmps117
  go_wp2_with (first
    | (go_at_call 115; refine HPA.out.mono ?_; rintro e w1 ⟨rfl, hb1⟩; have HB1 := Aside0.mk hb1; clear hb1 HPA)
    | (go_at_call 115; refine (HPB.out _ HB1.out).mono ?_; rintro e w2 ⟨rfl, hb2⟩; have HB2 := Aside0.mk (HB1.out.trans (hb2.mono HB1.out.size)); clear hb2 HPB; obtain ⟨bm, hcell, hl⟩ := K.out _ HB2.out; have hf0 := fun k n => (fields_form k n).1)
    | (go_at_call 133; refine (HRA.out _ HB2.out).mono ?_; rintro e w3 ⟨X, rfl, hn1, hn2, hb3⟩; have HB3 := Aside0.mk (HB2.out.trans (hb3.mono HB2.out.size)); clear hb3 HRA; obtain ⟨rfl, hxl, hxe⟩ := hn2 hna; have HXL := Aside0.mk hxl; have HXE := Aside0.mk hxe; clear hn1 hn2 hxl hxe)
    | (go_at_call 133; refine (HRB.out _ HB3.out).mono ?_; rintro e w4 ⟨Y, rfl, hm1, hm2, hb4⟩; have HB4 := Aside0.mk (HB3.out.trans (hb4.mono HB3.out.size)); clear hb4 HRB; obtain ⟨rfl, hyl, hye⟩ := hm2 hnb; have HYL := Aside0.mk hyl; have HYE := Aside0.mk hye; clear hm1 hm2 hyl hye)
    | (go_at_call 134; refine (misnan_no HXE.out _).mono ?_; rintro e w5 ⟨rfl, rfl⟩)
    | (go_at_call 134; refine (misnan_no HYE.out _).mono ?_; rintro e w6 ⟨rfl, rfl⟩)
    | (go_at_call 136; (with_reducible refine (copysign_any X HXL.out _).mono ?_); rintro e w7 ⟨rfl, rfl⟩)
    | (go_at_call 136; (with_reducible refine (copysign_any Y HYL.out _).mono ?_); rintro e w8 ⟨rfl, rfl⟩)
    | (go_at_call 135; refine (compare_f _ _ (csn_self _) (csn_self _) _).mono ?_; rintro e w9 ⟨rfl, rfl⟩))
  go_ret2
  exact ⟨rfl, HB4.out⟩
set_option maxRecDepth 100000 in
set_option maxHeartbeats 2000000 in
theorem compare_4x (ht : 0 ≤ t ∧ t < 256) (h : Tbl w) (hza : Rd w A a) (hya : Byt a) (hca : a.length ≤ c) (hcc : c ≤ 9223372036854775807) (hzb : Rd w B b) (hyb : Byt b) (hcb : b.length ≤ d) (hdd : d ≤ 9223372036854775807) (hq : plainC t a = 0) (hp : plainC t b = 0) (hk : knd t = 4) (hna : ¬ nanF a) (hnb : ¬ nanF b) (hz : ordF (bitF a) 0 ≠ some .eq) :
    Calls Tryd.prog 117 #[.int .u8 t, .slice A a.length c, .slice B b.length d] w (CmpSaid w (f3 (bitF a) (bitF b), true)) := by
  have HPA := Aside0.mk (plain_any t ht A c a w h hza hya hca hcc)
  have HPB := Aside0.mk fun W (hW : Below w.heap.size w W) => plain_any t ht B d b W (h.below hW) (hzb.below hW) hyb hcb hdd
  have K := Aside0.mk fun W (hW : Below w.heap.size w W) => (Tbl.below h hW).at_ ht
  have HZA := Aside0.mk hza
  have HZB := Aside0.mk hzb
  clear h hza hzb
  obtain ⟨hpa0, hpa1, hpa2, -, -⟩ := plainC_0 hq
  obtain ⟨hpb0, hpb1, hpb2, -, -⟩ := plainC_0 hp
  have hsz := siz_of t
  rw [hq] at HPA
  simp only [hp] at HPB
  rw [hk] at hsz hpa2 hpb2
  simp only [hk] at K
  clear hq hp hpa0 hpb0
  have hs := hsz.2.2.2.1 rfl
  have HRA := Aside0.mk fun W (hW : Below w.heap.size w W) => real_any A c a W (HZA.out.below hW) hya (by omega)
  have HRB := Aside0.mk fun W (hW : Below w.heap.size w W) => real_any B d b W (HZB.out.below hW) hyb (by omega)
  clear hsz hpa2 hpb2 hs
  obtain ⟨xa, hxa⟩ : ∃ x, bitF a = x := ⟨_, rfl⟩
  obtain ⟨xb, hxb⟩ : ∃ x, bitF b = x := ⟨_, rfl⟩
  simp only [hxa] at HRA
  simp only [hxb] at HRB
  rw [hxa] at hz ⊢
  rw [hxb]
  have z1 : (FloatKind.f64.format.order xa 0 == some .eq) = false := by simpa using hz
  clear hz hxa hxb

  go_enter Tryd.func117, Tryd.ntmps117
  go_wp2_with (first
    | (go_at_call 115; refine HPA.out.mono ?_; rintro e w1 ⟨rfl, hb1⟩; have HB1 := Aside0.mk hb1; clear hb1 HPA)
    | (go_at_call 115; refine (HPB.out _ HB1.out).mono ?_; rintro e w2 ⟨rfl, hb2⟩; have HB2 := Aside0.mk (HB1.out.trans (hb2.mono HB1.out.size)); clear hb2 HPB; obtain ⟨bm, hcell, hl⟩ := K.out _ HB2.out; have hf0 := fun k n => (fields_form k n).1)
    | (go_at_call 133; refine (HRA.out _ HB2.out).mono ?_; rintro e w3 ⟨X, rfl, hn1, hn2, hb3⟩; have HB3 := Aside0.mk (HB2.out.trans (hb3.mono HB2.out.size)); clear hb3 HRA; obtain ⟨rfl, hxl, hxe⟩ := hn2 hna; have HXL := Aside0.mk hxl; have HXE := Aside0.mk hxe; clear hn1 hn2 hxl hxe)
    | (go_at_call 133; refine (HRB.out _ HB3.out).mono ?_; rintro e w4 ⟨Y, rfl, hm1, hm2, hb4⟩; have HB4 := Aside0.mk (HB3.out.trans (hb4.mono HB3.out.size)); clear hb4 HRB; obtain ⟨rfl, hyl, hye⟩ := hm2 hnb; have HYL := Aside0.mk hyl; have HYE := Aside0.mk hye; clear hm1 hm2 hyl hye)
    | (go_at_call 134; refine (misnan_no HXE.out _).mono ?_; rintro e w5 ⟨rfl, rfl⟩)
    | (go_at_call 134; refine (misnan_no HYE.out _).mono ?_; rintro e w6 ⟨rfl, rfl⟩)
    | (go_at_call 135; refine (compare_f _ _ HXE.out HYE.out _).mono ?_; rintro e w9 ⟨rfl, rfl⟩))
  go_ret2
  exact ⟨rfl, HB4.out⟩
set_option maxRecDepth 100000 in
set_option maxHeartbeats 2000000 in
theorem compare_4y (ht : 0 ≤ t ∧ t < 256) (h : Tbl w) (hza : Rd w A a) (hya : Byt a) (hca : a.length ≤ c) (hcc : c ≤ 9223372036854775807) (hzb : Rd w B b) (hyb : Byt b) (hcb : b.length ≤ d) (hdd : d ≤ 9223372036854775807) (hq : plainC t a = 0) (hp : plainC t b = 0) (hk : knd t = 4) (hna : ¬ nanF a) (hnb : ¬ nanF b) (hz : ordF (bitF a) 0 = some .eq) (hz2 : ordF (bitF b) 0 ≠ some .eq) :
    Calls Tryd.prog 117 #[.int .u8 t, .slice A a.length c, .slice B b.length d] w (CmpSaid w (f3 (bitF a) (bitF b), true)) := by
  have HPA := Aside0.mk (plain_any t ht A c a w h hza hya hca hcc)
  have HPB := Aside0.mk fun W (hW : Below w.heap.size w W) => plain_any t ht B d b W (h.below hW) (hzb.below hW) hyb hcb hdd
  have K := Aside0.mk fun W (hW : Below w.heap.size w W) => (Tbl.below h hW).at_ ht
  have HZA := Aside0.mk hza
  have HZB := Aside0.mk hzb
  clear h hza hzb
  obtain ⟨hpa0, hpa1, hpa2, -, -⟩ := plainC_0 hq
  obtain ⟨hpb0, hpb1, hpb2, -, -⟩ := plainC_0 hp
  have hsz := siz_of t
  rw [hq] at HPA
  simp only [hp] at HPB
  rw [hk] at hsz hpa2 hpb2
  simp only [hk] at K
  clear hq hp hpa0 hpb0
  have hs := hsz.2.2.2.1 rfl
  have HRA := Aside0.mk fun W (hW : Below w.heap.size w W) => real_any A c a W (HZA.out.below hW) hya (by omega)
  have HRB := Aside0.mk fun W (hW : Below w.heap.size w W) => real_any B d b W (HZB.out.below hW) hyb (by omega)
  clear hsz hpa2 hpb2 hs
  obtain ⟨xa, hxa⟩ : ∃ x, bitF a = x := ⟨_, rfl⟩
  obtain ⟨xb, hxb⟩ : ∃ x, bitF b = x := ⟨_, rfl⟩
  simp only [hxa] at HRA
  simp only [hxb] at HRB
  rw [hxa] at hz ⊢
  rw [hxb] at hz2 ⊢
  have z1 : (FloatKind.f64.format.order xa 0 == some .eq) = true := by rw [show FloatKind.f64.format.order xa 0 = some .eq from hz]; rfl
  have z2 : (FloatKind.f64.format.order xb 0 == some .eq) = false := by simpa using hz2
  clear hz hz2 hxa hxb

  go_enter Tryd.func117, Tryd.ntmps117
  go_wp2_with (first
    | (go_at_call 115; refine HPA.out.mono ?_; rintro e w1 ⟨rfl, hb1⟩; have HB1 := Aside0.mk hb1; clear hb1 HPA)
    | (go_at_call 115; refine (HPB.out _ HB1.out).mono ?_; rintro e w2 ⟨rfl, hb2⟩; have HB2 := Aside0.mk (HB1.out.trans (hb2.mono HB1.out.size)); clear hb2 HPB; obtain ⟨bm, hcell, hl⟩ := K.out _ HB2.out; have hf0 := fun k n => (fields_form k n).1)
    | (go_at_call 133; refine (HRA.out _ HB2.out).mono ?_; rintro e w3 ⟨X, rfl, hn1, hn2, hb3⟩; have HB3 := Aside0.mk (HB2.out.trans (hb3.mono HB2.out.size)); clear hb3 HRA; obtain ⟨rfl, hxl, hxe⟩ := hn2 hna; have HXL := Aside0.mk hxl; have HXE := Aside0.mk hxe; clear hn1 hn2 hxl hxe)
    | (go_at_call 133; refine (HRB.out _ HB3.out).mono ?_; rintro e w4 ⟨Y, rfl, hm1, hm2, hb4⟩; have HB4 := Aside0.mk (HB3.out.trans (hb4.mono HB3.out.size)); clear hb4 HRB; obtain ⟨rfl, hyl, hye⟩ := hm2 hnb; have HYL := Aside0.mk hyl; have HYE := Aside0.mk hye; clear hm1 hm2 hyl hye)
    | (go_at_call 134; refine (misnan_no HXE.out _).mono ?_; rintro e w5 ⟨rfl, rfl⟩)
    | (go_at_call 134; refine (misnan_no HYE.out _).mono ?_; rintro e w6 ⟨rfl, rfl⟩)
    | (go_at_call 135; refine (compare_f _ _ HXE.out HYE.out _).mono ?_; rintro e w9 ⟨rfl, rfl⟩))
  go_ret2
  exact ⟨rfl, HB4.out⟩
end
end Go.Proofs.YtokebpeplopjhaaDoor.Mp
