/- Maps, plainly: which value stands at which key. -/
import Derived.Maps.Own
import Derived.Maps.OwnOps
import Derived.DeepKeys5
import Derived.Below
namespace Go.Proofs.YtcgcghldgomelaaGreatDoor.Mp
open Go.RowKit Go.ChangeMaps Go.MapKept Go.Maps

/-- Block b of w is a map of at most n entries that holds f. -/
def MapAt (P : Program) (k : TypeId) (w : World) (b n : Nat) (f : Value → Option Value) : Prop :=
  ∃ es clock, w.heap[b]? = some (.map es clock) ∧ Stamped es clock ∧ es.size ≤ n ∧ (∀ x ∈ es.toList, ∃ l, keyOf P k x.key = some l) ∧
    (∀ x ∈ es.toList, f x.key = some x.val) ∧ ∀ key v, f key = some v → ∃ x ∈ es.toList, x.key = key ∧ x.val = v
section
variable {P : Program} {k e t : TypeId} {w : World} {b n : Nat} {f : Value → Option Value}
theorem MapAt.lt (h : MapAt P k w b n f) : b < w.heap.size := by
  obtain ⟨es, clock, hb, _⟩ := h
  exact (Array.getElem?_eq_some_iff.1 hb).1
theorem MapAt.block {W : World} (h : MapAt P k w b n f) (hb : W.heap[b]? = w.heap[b]?) : MapAt P k W b n f := by
  obtain ⟨es, clock, h1, h2⟩ := h
  exact ⟨es, clock, hb.trans h1, h2⟩
theorem MapAt.below {W : World} (h : MapAt P k w b n f) (hb : Below w.heap.size w W) : MapAt P k W b n f := h.block (hb.block b h.lt)
theorem MapAt.mono {m : Nat} (h : MapAt P k w b n f) (hn : n ≤ m) : MapAt P k w b m f := by
  obtain ⟨es, clock, h1, h2, h3, h4⟩ := h
  exact ⟨es, clock, h1, h2, Nat.le_trans h3 hn, h4⟩
theorem MapAt.made (P : Program) (k : TypeId) (w : World) : MapAt P k (w.alloc (.map #[] 0)) w.heap.size 0 (fun _ => none) :=
  ⟨#[], 0, (MapKept.heap_alloc w _).1, stamped_empty 0, Nat.le_refl _, by simp, by simp, by simp⟩
/-- 'm[k]' (c = false), 'v, ok := m[k]' (c = true). -/
theorem MapAt.look (h : MapAt P k w b n f) (K : Keyed P k) (ht : P.underlying t = some (.map k e)) {z : Value} (hz : (zeroValue e).run P w = .ok z w) {key : Value} {kl : Lit} (hkey : keyOf P k key = some kl) (c : Bool) :
    (Instr.lookup t (.map (some b)) key c).run P w = .ok (if c then .tuple #[(f key).getD z, .bool (f key).isSome] else (f key).getD z) w := by
  obtain ⟨es, clock, hb, hs, hn, hk, h1, h2⟩ := h
  rcases K.find w hkey es.toList hk with ⟨r1, r2⟩ | ⟨j, e0, r1, r2, r3⟩
  · have hf : f key = none := by
      cases hf : f key with
      | none => rfl
      | some v =>
        obtain ⟨x, hx, e1, _⟩ := h2 key v hf
        exact absurd e1 (r2 x hx)
    simp [Instr.lookup, run_underlying ht, MapKept.run_getObj_map hb, K.check w _ hkey, r1, hz, Result.andThen, hf]
  · have hf : f key = some e0.val := r3 ▸ h1 e0 (List.mem_of_getElem? r2)
    simp [Instr.lookup, run_underlying ht, MapKept.run_getObj_map hb, K.check w _ hkey, r1, Result.andThen, hf]
/-- A nil map holds nothing. -/
theorem look_nil (K : Keyed P k) (ht : P.underlying t = some (.map k e)) {z : Value} (hz : (zeroValue e).run P w = .ok z w) {key : Value} {kl : Lit} (hkey : keyOf P k key = some kl) (c : Bool) :
    (Instr.lookup t (.map none) key c).run P w = .ok (if c then .tuple #[z, .bool false] else z) w := by
  rcases K.find w hkey [] (by simp) with ⟨r1, r2⟩ | ⟨j, e0, r1, r2, r3⟩
  · simp [Instr.lookup, run_underlying ht, K.check w _ hkey, r1, hz, Result.andThen]
  · simp at r2
/-- 'm[k] = v'. -/
theorem MapAt.put (h : MapAt P k w b n f) (K : Keyed P k) (ht : P.underlying t = some (.map k e)) {key : Value} {kl : Lit} (hkey : keyOf P k key = some kl) (val : Value) {f' : Value → Option Value} (hf1 : f' key = some val) (hf2 : ∀ x, x ≠ key → f' x = f x) :
    ∃ o, (Instr.mapUpdate t (.map (some b)) key val).run P w = .ok () (setBlock w b o) ∧ MapAt P k (setBlock w b o) b (n + 1) f' := by
  have hlt := h.lt
  obtain ⟨es, clock, hb, hs, hn, hk, h1, h2⟩ := h
  have hblk : ∀ o, (setBlock w b o).heap[b]? = some o := fun o => by
    simp only [setBlock]
    rw [Array.getElem?_setIfInBounds_self_of_lt hlt]
  rcases K.find w hkey es.toList hk with ⟨r1, r2⟩ | ⟨j, e0, r1, r2, r3⟩
  · refine ⟨.map (es.push ⟨key, val, clock⟩) (clock + 1), ?_, es.push ⟨key, val, clock⟩, clock + 1, hblk _, stamped_push hs r2, by simp; omega, ?_, ?_, ?_⟩
    · simp [Instr.mapUpdate, run_underlying ht, MapKept.run_getObj_map hb, K.check w false hkey, r1, MapKept.run_setObj_map _ hb, Result.andThen, setBlock]
    · intro x hx
      simp only [Array.toList_push, List.mem_append, List.mem_singleton] at hx
      rcases hx with hx | rfl
      · exact hk x hx
      · exact ⟨_, hkey⟩
    · intro x hx
      simp only [Array.toList_push, List.mem_append, List.mem_singleton] at hx
      rcases hx with hx | rfl
      · rw [hf2 _ (r2 x hx)]
        exact h1 x hx
      · exact hf1
    · intro ky v hv
      simp only [Array.toList_push, List.mem_append, List.mem_singleton]
      by_cases e : ky = key
      · subst e
        rw [hf1] at hv
        cases hv
        exact ⟨_, Or.inr rfl, rfl, rfl⟩
      · rw [hf2 _ e] at hv
        obtain ⟨x, hx, e1, e2⟩ := h2 ky v hv
        exact ⟨x, Or.inl hx, e1, e2⟩
  · have hj : es[j]? = some e0 := by simpa using r2
    have hkeyf : ∀ e', es[j]? = some e' → ({ e' with key := key, val := val } : MapEntry).key = e'.key := fun e' he' => by rw [hj] at he'; cases he'; exact r3.symm
    have hlist : (es.modify j (fun e' => { e' with key := key, val := val })).toList = es.toList.set j { e0 with key := key, val := val } := by rw [Array.toList_modify, modify_eq_set _ _ _ _ r2]
    have hpw := ((stamped_iff es clock).1 hs).2.2
    have other : ∀ (i : Nat) (x : MapEntry), i ≠ j → es.toList[i]? = some x → x.key ≠ key := by
      intro i x hij hx
      obtain ⟨hi, ex⟩ := List.getElem?_eq_some_iff.1 hx
      obtain ⟨hjl, ej⟩ := List.getElem?_eq_some_iff.1 r2
      rw [← r3, ← ex, ← ej]
      rcases Nat.lt_or_gt_of_ne hij with hlt' | hgt
      · exact List.pairwise_iff_getElem.1 hpw i j hi hjl hlt'
      · exact (List.pairwise_iff_getElem.1 hpw j i hjl hi hgt).symm
    have who : ∀ x ∈ es.toList.set j { e0 with key := key, val := val }, x = { e0 with key := key, val := val } ∨ (x ∈ es.toList ∧ x.key ≠ key) := by
      intro x hx
      obtain ⟨i, hi, ex⟩ := List.getElem_of_mem hx
      rw [List.getElem_set] at ex
      split at ex
      · exact Or.inl ex.symm
      · rename_i hne
        have hi' : i < es.toList.length := by simpa using hi
        exact Or.inr ⟨ex ▸ List.getElem_mem hi', other i x (fun e1 => hne e1.symm) (by rw [List.getElem?_eq_getElem hi', ex])⟩
    refine ⟨.map (es.modify j (fun e' => { e' with key := key, val := val })) clock, ?_, es.modify j (fun e' => { e' with key := key, val := val }), clock, hblk _, stamped_modify hs _ _ (fun _ _ => rfl) (fun e' _ he' => hkeyf e' he'), by simp; omega, ?_, ?_, ?_⟩
    · simp [Instr.mapUpdate, run_underlying ht, MapKept.run_getObj_map hb, K.check w false hkey, r1, hj, r3, K.stays w hkey, MapKept.run_setObj_map _ hb, Result.andThen, setBlock]
    · intro x hx
      rw [hlist] at hx
      rcases who x hx with rfl | ⟨hx', _⟩
      · exact ⟨_, hkey⟩
      · exact hk x hx'
    · intro x hx
      rw [hlist] at hx
      rcases who x hx with rfl | ⟨hx', hne⟩
      · exact hf1
      · rw [hf2 _ hne]
        exact h1 x hx'
    · intro ky v hv
      rw [hlist]
      have hjl : j < es.toList.length := (List.getElem?_eq_some_iff.1 r2).1
      by_cases e1 : ky = key
      · subst e1
        rw [hf1] at hv
        cases hv
        exact ⟨{ e0 with key := ky, val := val }, List.mem_iff_getElem.2 ⟨j, by simpa using hjl, by simp⟩, rfl, rfl⟩
      · rw [hf2 _ e1] at hv
        obtain ⟨x, hx, e2, e3⟩ := h2 ky v hv
        obtain ⟨i, hi, ex⟩ := List.getElem_of_mem hx
        have hij : i ≠ j := by
          intro e4
          subst e4
          have := (List.getElem?_eq_some_iff.1 r2).2
          rw [ex] at this
          subst this
          exact e1 (e2.symm.trans r3)
        exact ⟨x, List.mem_iff_getElem.2 ⟨i, by simpa using hi, by rw [List.getElem_set_ne (Ne.symm hij)]; exact ex⟩, e2, e3⟩
end
end Go.Proofs.YtcgcghldgomelaaGreatDoor.Mp
