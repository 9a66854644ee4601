/- Types, dictionaries and mappings, plainly. -/
import Derived.WalkKit
namespace Go.Proofs.YtcgcghldgomelaaGreatDoor.Mp

/-- A type's kind (1 bool, 2 with a sign, 3 without, 4 float, 5 time, 6 text, 0 none), and its size. -/
def knd (t : Int) : Int :=
  if t = 1 then 1 else if t = 2 ∨ t = 3 ∨ t = 4 ∨ t = 16 ∨ t = 21 then 2 else if t = 5 ∨ t = 6 ∨ t = 7 ∨ t = 22 ∨ t = 27 then 3
  else if t = 8 ∨ t = 17 then 4 else if t = 12 ∨ t = 13 then 5 else if t = 9 ∨ t = 10 ∨ t = 15 then 6 else 0
def siz (t : Int) : Int :=
  if t = 1 ∨ t = 2 ∨ t = 5 then 1 else if t = 3 ∨ t = 6 then 2 else if t = 16 ∨ t = 22 then 3 else if t = 4 ∨ t = 7 ∨ t = 8 then 4
  else if t = 12 ∨ t = 13 then 6 else if t = 21 ∨ t = 27 ∨ t = 17 then 8 else 0
theorem form_cases (t : Int) : (t = 1 ∧ knd t = 1 ∧ siz t = 1) ∨ (t = 2 ∧ knd t = 2 ∧ siz t = 1) ∨ (t = 3 ∧ knd t = 2 ∧ siz t = 2) ∨ (t = 4 ∧ knd t = 2 ∧ siz t = 4) ∨ (t = 16 ∧ knd t = 2 ∧ siz t = 3) ∨ (t = 21 ∧ knd t = 2 ∧ siz t = 8) ∨ (t = 5 ∧ knd t = 3 ∧ siz t = 1) ∨ (t = 6 ∧ knd t = 3 ∧ siz t = 2) ∨ (t = 7 ∧ knd t = 3 ∧ siz t = 4) ∨ (t = 22 ∧ knd t = 3 ∧ siz t = 3) ∨ (t = 27 ∧ knd t = 3 ∧ siz t = 8) ∨ (t = 8 ∧ knd t = 4 ∧ siz t = 4) ∨ (t = 17 ∧ knd t = 4 ∧ siz t = 8) ∨ (t = 12 ∧ knd t = 5 ∧ siz t = 6) ∨ (t = 13 ∧ knd t = 5 ∧ siz t = 6) ∨ (t = 9 ∧ knd t = 6 ∧ siz t = 0) ∨ (t = 10 ∧ knd t = 6 ∧ siz t = 0) ∨ (t = 15 ∧ knd t = 6 ∧ siz t = 0) ∨ (t ≠ 1 ∧ knd t = 0 ∧ siz t = 0) := by
  by_cases h1 : t = 1
  · subst h1; decide
  by_cases h2 : t = 2
  · subst h2; decide
  by_cases h3 : t = 3
  · subst h3; decide
  by_cases h4 : t = 4
  · subst h4; decide
  by_cases h16 : t = 16
  · subst h16; decide
  by_cases h21 : t = 21
  · subst h21; decide
  by_cases h5 : t = 5
  · subst h5; decide
  by_cases h6 : t = 6
  · subst h6; decide
  by_cases h7 : t = 7
  · subst h7; decide
  by_cases h22 : t = 22
  · subst h22; decide
  by_cases h27 : t = 27
  · subst h27; decide
  by_cases h8 : t = 8
  · subst h8; decide
  by_cases h17 : t = 17
  · subst h17; decide
  by_cases h12 : t = 12
  · subst h12; decide
  by_cases h13 : t = 13
  · subst h13; decide
  by_cases h9 : t = 9
  · subst h9; decide
  by_cases h10 : t = 10
  · subst h10; decide
  by_cases h15 : t = 15
  · subst h15; decide
  have e1 : knd t = 0 := by simp [knd, h1, h2, h3, h4, h16, h21, h5, h6, h7, h22, h27, h8, h17, h12, h13, h9, h10, h15]
  have e2 : siz t = 0 := by simp [siz, h1, h2, h3, h4, h16, h21, h5, h6, h7, h22, h27, h8, h17, h12, h13]
  exact Or.inr (Or.inr (Or.inr (Or.inr (Or.inr (Or.inr (Or.inr (Or.inr (Or.inr (Or.inr (Or.inr (Or.inr (Or.inr (Or.inr (Or.inr (Or.inr (Or.inr (Or.inr (⟨h1, e1, e2⟩))))))))))))))))))
theorem knd_cases (t : Int) : knd t = 0 ∨ knd t = 1 ∨ knd t = 2 ∨ knd t = 3 ∨ knd t = 4 ∨ knd t = 5 ∨ knd t = 6 := by
  have := form_cases t
  omega
theorem siz_cases (t : Int) : siz t = 0 ∨ siz t = 1 ∨ siz t = 2 ∨ siz t = 3 ∨ siz t = 4 ∨ siz t = 6 ∨ siz t = 8 := by
  have := form_cases t
  omega
theorem siz_pos {t : Int} : 0 < siz t ↔ knd t ≠ 0 ∧ knd t ≠ 6 := by
  have := form_cases t
  omega
theorem knd_one {t : Int} : knd t = 1 ↔ t = 1 := by
  have := form_cases t
  omega
theorem siz_of (t : Int) : (knd t = 1 → siz t = 1) ∧ (knd t = 2 → siz t = 1 ∨ siz t = 2 ∨ siz t = 3 ∨ siz t = 4 ∨ siz t = 8) ∧ (knd t = 3 → siz t = 1 ∨ siz t = 2 ∨ siz t = 3 ∨ siz t = 4 ∨ siz t = 8) ∧ (knd t = 4 → siz t = 4 ∨ siz t = 8) ∧ (knd t = 5 → siz t = 6) ∧ (knd t = 6 → siz t = 0) ∧ (knd t = 0 → siz t = 0) := by
  have := form_cases t
  refine ⟨?_, ?_, ?_, ?_, ?_, ?_, ?_⟩ <;> intro h <;> omega

/-- A number, the lowest byte first. -/
def num : List Int → Int
  | [] => 0
  | b :: r => b + 256 * num r
def Byt (l : List Int) : Prop := ∀ x ∈ l, 0 ≤ x ∧ x < 256
theorem num_nonneg {l : List Int} (h : Byt l) : 0 ≤ num l := by
  induction l with
  | nil => simp [num]
  | cons b r ih =>
    have h1 := h b (by simp)
    have h2 := ih (fun x hx => h x (by simp [hx]))
    simp only [num]
    omega
theorem num_lt {l : List Int} (h : Byt l) : num l < 256 ^ l.length := by
  induction l with
  | nil => simp [num]
  | cons b r ih =>
    have h1 := h b (by simp)
    have h2 := ih (fun x hx => h x (by simp [hx]))
    simp only [num, List.length_cons, Int.pow_succ]
    omega
/-- Why bytes are no value. -/
def plainC (t : Int) (b : List Int) : Int :=
  if knd t = 0 then 0x08000000 else if 4096 < (b.length : Int) ∨ (knd t ≠ 6 ∧ siz t < b.length) then 0x06070012 else if (b.length : Int) < siz t then 0x06070013
  else if (knd t = 1 ∧ (1 : Int) < b[0]?.getD 0) ∨ (knd t = 5 ∧ 86400000 ≤ num (b.take 4)) then 0x06090030 else 0
theorem plainC_0 {t : Int} {b : List Int} (h : plainC t b = 0) : knd t ≠ 0 ∧ b.length ≤ 4096 ∧ (knd t ≠ 6 → (b.length : Int) = siz t) ∧ (knd t = 1 → b[0]?.getD 0 ≤ (1 : Int)) ∧ (knd t = 5 → num (b.take 4) < 86400000) := by
  unfold plainC at h
  repeat' split at h
  all_goals first | omega | skip
/-- A number with a sign. -/
def wholeC (b : List Int) : Int := if 2 * num b < 256 ^ b.length then num b else num b - 256 ^ b.length
def cmp3 (a b : Int) : Int := if a < b then -1 else if b < a then 1 else 0
structure En where
  ix : Int
  sub : Int
  name : ByteArray
  ty : Int
  rt : Int
  df : List Int
  lo : List Int
  hi : List Int
  tag : Int
  grp : Int
/-- An entry and its value. -/
structure It extends En where
  val : List Int
def zEn : En := ⟨0, 0, ByteArray.empty, 0, 0, [], [], [], 0, 0⟩
def zIt : It := ⟨zEn, []⟩
/-- A dictionary: its items; how many entries an index has; how many values were set. -/
structure DD where
  D : Int → Int → Option It
  S : Int → Int
  c : Int
def firstC (e : En) : List Int := if 0 < e.df.length then e.df else List.replicate (siz e.ty).toNat 0
section
variable (chk : Int → List Int → List Int → List Int → Int)
/-- May an entry be? -/
def mayC (e : En) : Prop := knd e.ty ≠ 0 ∧ e.rt ≤ 15 ∧ e.grp ≤ 16 ∧ e.name.size ≤ 100 ∧ (e.lo = [] ∨ chk e.ty e.lo [] [] = 0) ∧ (e.hi = [] ∨ chk e.ty e.hi [] [] = 0) ∧ chk e.ty (firstC e) e.lo e.hi = 0
end
/-- One entry more. -/
def DD.add (d : DD) (e : En) : DD := ⟨fun i s => if i = e.ix ∧ s = e.sub then some ⟨e, firstC e⟩ else d.D i s, fun i => if i = e.ix then d.S i + 1 else d.S i, d.c⟩
def DD.none : DD := ⟨fun _ _ => Option.none, fun _ => 0, 0⟩
def DD.of (l : List En) : DD := l.foldl DD.add DD.none
/-- A value is put. -/
def DD.put (d : DD) (x : It) (b : List Int) : DD := ⟨fun i s => if i = x.ix ∧ s = x.sub then some { x with val := b } else d.D i s, d.S, Go.IntKind.i64.wrap (d.c + 1)⟩
/-- An entry, or why there is none. -/
def DD.at (d : DD) (i s : Int) : It × Int := match d.D i s with
  | some x => (x, 0)
  | .none => (zIt, if 0 < d.S i then 0x06090011 else 0x06020000)
end Go.Proofs.YtcgcghldgomelaaGreatDoor.Mp
