/-
  How a slice argument of bools or of records is opened. Nothing here speaks of the program's code.
-/
import Derived.Test.YtbapamfomfbmmaaOpen
import Derived.Test.YtbapamfomfbmmaaFlat
import Derived.Deep.Fields
namespace Go.Proofs.Ytbapamfomfbmmaa
open Go.ChangeShapes Go.WideShapes Go.ChangeAt Go.RowKit Go.Joins Go.Deep
set_option linter.unusedSimpArgs false
set_option linter.unusedVariables false

theorem choose_list {α : Type} {p : Nat → α → Prop} : ∀ (n : Nat), (∀ i, i < n → ∃ a, p i a) → ∃ l : List α, l.length = n ∧ ∀ i a, l[i]? = some a → p i a
  | 0, _ => ⟨[], rfl, by simp⟩
  | n + 1, h => by
    obtain ⟨l, hl, hp⟩ := choose_list n fun i hi => h i (by omega)
    obtain ⟨a, ha⟩ := h n (by omega)
    refine ⟨l ++ [a], by simp [hl], fun i b hb => ?_⟩
    by_cases hi : i < n
    · rw [List.getElem?_append_left (by omega)] at hb
      exact hp i b hb
    · have hi2 : i < (l ++ [a]).length := lt_of_get hb
      rw [List.length_append, hl] at hi2
      simp only [List.length_cons, List.length_nil] at hi2
      obtain rfl : i = n := by omega
      rw [List.getElem?_append_right (by omega), hl, Nat.sub_self] at hb
      simp only [List.getElem?_cons_zero, Option.some.injEq] at hb
      subst hb
      exact ha

theorem flat_one {α : Type} (g : α → Value) (rs : List α) : rs.map g = rs.flatMap (fun b => [g b]) := by
  induction rs with
  | nil => rfl
  | cons b rs ih => simp [List.flatMap_cons, ih]

section
variable {H : Type} {enc : TypeId × Value → H} {P : Program} {w : World} {base : Nat} {spare : Nat → Bool} {held : Bool}
theorem open_recs {α : Type} (encR : α → List Value) (ok : α → Prop) {size : Nat} (hs : 0 < size) (hsz : ∀ a, (encR a).length = size) {t e : TypeId} {fuel : Nat} {A : Option Addr} {len cap : Nat} {x : DataW H × List MemPlace}
    (ht : P.underlying t = some (.slice e)) (hC : P.cellsOf e = size)
    (hdec : ∀ (n : Nat) (cs : List Value) (y : DataW H × List MemPlace), cs.length = size → DataW.trod enc P w base spare held n e cs = some y → ∃ r, cs = encR r ∧ ok r)
    (h : DataW.trod enc P w base spare held fuel t [.slice A len cap] = some x) :
    ∃ rs : List α, rs.length = len ∧ Cells w size A len (rs.flatMap encR) ∧ len ≤ cap ∧ cap ≤ maxLen ∧ ∀ r ∈ rs, ok r := by
  rcases open_slice ht h with ⟨hcs, _⟩ | ⟨a, l, c, m, n, D, Pl, hcs, hb, hl, hm, hmm, _, hi⟩
  · simp at hcs
    obtain ⟨rfl, rfl, rfl⟩ := hcs
    exact ⟨[], rfl, Cells.nil _ _ _, Nat.le_refl _, by simp [maxLen], by simp⟩
  · simp at hcs
    obtain ⟨rfl, rfl, rfl⟩ := hcs
    have hlm : len ≤ m := by rw [hmm]; split <;> omega
    obtain ⟨rs, hrl, hr⟩ := choose_list (α := α) (p := fun i r => ok r ∧ ∀ j, j < size → w.cell? (a.add (i * size + j)) = (encR r)[j]?) len (fun i hil => by
      obtain ⟨cs', hc, htr⟩ := hi i (by omega)
      rw [hC] at hc
      obtain ⟨_, hcl, hat⟩ := World.cells?_some hc
      obtain ⟨r, rfl, hok⟩ := hdec _ _ _ hcl htr
      exact ⟨r, hok, fun j hj => by rw [← Go.Deep.add_add]; exact hat j hj⟩)
    refine ⟨rs, hrl, ⟨by rw [flat_len hsz, hrl], fun h0 => ?_⟩, hl, hm, fun r hrm => ?_⟩
    · obtain ⟨g, o, spot⟩ := a
      have key : ∀ j, j < len * size → w.cell? ((⟨g, o, spot⟩ : Addr).add j) = (rs.flatMap encR)[j]? := by
        intro j hj
        have hq : j / size < len := Nat.div_lt_of_lt_mul (by rw [Nat.mul_comm]; exact hj)
        have hrm : j % size < size := Nat.mod_lt _ hs
        obtain ⟨r, hr'⟩ : ∃ r, rs[j / size]? = some r := ⟨_, List.getElem?_eq_getElem (by omega)⟩
        have e : j / size * size + j % size = j := by rw [Nat.mul_comm]; exact Nat.div_add_mod j size
        have h1 := (hr _ _ hr').2 (j % size) hrm
        have h2 := flat_get hsz hr' hrm
        rw [e] at h1 h2
        rw [h1, h2]
      have hc0 := key 0 (Nat.mul_pos h0 hs)
      obtain ⟨v, hv⟩ : ∃ v, (rs.flatMap encR)[0]? = some v := ⟨_, List.getElem?_eq_getElem (by rw [flat_len hsz, hrl]; exact Nat.mul_pos h0 hs)⟩
      rw [hv] at hc0
      have hspot : spot = none := by simpa [Addr.add] using World.cell?_spot hc0
      subst hspot
      refine ⟨g, o, rfl, ?_, fun j hj => by rw [← key j hj, addr_add]⟩
      have := World.block_lt_of_cell? w _ hc0
      simpa [Addr.add] using this
    · obtain ⟨i, hi', rfl⟩ := List.getElem_of_mem hrm
      exact (hr i _ (List.getElem?_eq_getElem hi')).1

theorem fields_dec {t : TypeId} {fs : Array Field} (hs : P.underlying t = some (.struct fs)) (hone : oneCellFields P fs = true) (hC : P.cellsOf t = fs.size) {n : Nat} {cs : List Value} {y : DataW H × List MemPlace}
    (h : DataW.trod enc P w base spare held n t cs = some y) : cs.length = fs.size ∧ ∃ k, ∀ (i : Nat) (f : Field), fs[i]? = some f → ∃ v z, cs[i]? = some v ∧ DataW.trod enc P w base spare held k f.type [v] = some z := by
  obtain ⟨xs, k, _, _, hcl, hxl, hf⟩ := DataW.trod_struct hs h
  refine ⟨hcl.trans hC, k, fun i f hi => ?_⟩
  obtain ⟨ho, hk⟩ := hone_of hone i f hi
  have hil : i < fs.size := (Array.getElem?_eq_some_iff.1 hi).1
  have hics : i < cs.length := by rw [hcl, hC]; exact hil
  have h1 := hf i f hi
  rw [ho, hk, List.drop_eq_getElem_cons hics] at h1
  exact ⟨cs[i], _, List.getElem?_eq_getElem hics, h1.trans (List.getElem?_eq_getElem (by omega))⟩

theorem open_struct {r : Reach} {b0 : Nat} {t : TypeId} {fs : Array Field} (hs : P.underlying t = some (.struct fs)) {v : Value} {d : DataW H} {p : List MemPlace}
    (hv : Value.okWide P w r b0 t v) (h : DataW.Trod enc P w base spare held t v d p) : ∃ (cs : List Value) (n : Nat) (y : DataW H × List MemPlace), v = .agg cs.toArray ∧ DataW.trod enc P w base spare held n t cs = some y := by
  obtain ⟨cs, rfl, hsz⟩ := okWide_struct hs hv
  obtain ⟨fuel, hf⟩ := h
  exact ⟨cs.toList, fuel, _, by simp, by simpa [Value.cells] using hf⟩

theorem open_boolS {t e : TypeId} {fuel : Nat} {a : Option Addr} {len cap : Nat} {x : DataW H × List MemPlace} (ht : P.underlying t = some (.slice e)) (he : P.underlying e = some .bool) (hc : P.cellsOf e = 1)
    (h : DataW.trod enc P w base spare held fuel t [.slice a len cap] = some x) :
    ∃ bs, Bools w a len bs ∧ len ≤ cap ∧ cap ≤ maxLen := by
  obtain ⟨rs, h1, h2, h3, h4, _⟩ := open_recs (α := Bool) (fun b => [Value.bool b]) (fun _ => True) (size := 1) (by omega) (fun _ => rfl) ht hc (fun n cs y _ hy => by
    obtain ⟨b, hb, _⟩ := DataW.trod_bool he hy
    exact ⟨b, hb, trivial⟩) h
  refine ⟨rs, ?_, h3, h4⟩
  unfold Bools mapB
  rw [flat_one]
  exact h2
end
end Go.Proofs.Ytbapamfomfbmmaa
