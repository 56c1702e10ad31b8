/- Plain laws: sorting in blocks, by insertion and by merging in place, keeps what is equal in its order. No condition. Plain laws: rows of five numbers, moved about. No condition. Plain laws: rows put one by one at their places are the rows sorted. No condition. -/
import Derived.Test.YtkpdoikjfibflaaGreatDoorBase
import Derived.Test.YtkpdoikjfibflaaGreatDoorK
namespace Go.Proofs.YtkpdoikjfibflaaGreatDoor
/-- A rearrangement of the places from a on, below b. -/
structure Prm (a b : Nat) (p : Nat → Nat) : Prop where
  out : ∀ i, ¬ (a ≤ i ∧ i < b) → p i = i
  into : ∀ i, a ≤ i → i < b → a ≤ p i ∧ p i < b
  inj : ∀ i j, p i = p j → i = j
  onto : ∀ x, a ≤ x → x < b → ∃ i, (a ≤ i ∧ i < b) ∧ p i = x
theorem Prm.refl (a b : Nat) : Prm a b id := ⟨fun _ _ => rfl, fun _ h k => ⟨h, k⟩, fun _ _ h => h, fun x h k => ⟨x, ⟨h, k⟩, rfl⟩⟩
theorem Prm.comp {a b : Nat} {p q : Nat → Nat} (hp : Prm a b p) (hq : Prm a b q) : Prm a b (p ∘ q) := by
  refine ⟨fun i h => ?_, fun i h k => ?_, fun i j h => hq.inj i j (hp.inj _ _ h), fun x h k => ?_⟩
  · show p (q i) = i
    rw [hq.out i h, hp.out i h]
  · obtain ⟨h1, h2⟩ := hq.into i h k
    exact hp.into _ h1 h2
  · obtain ⟨y, ⟨h1, h2⟩, h3⟩ := hp.onto x h k
    obtain ⟨z, h4, h5⟩ := hq.onto y h1 h2
    exact ⟨z, h4, by show p (q z) = x; rw [h5, h3]⟩
theorem Prm.mono {a b a' b' : Nat} {p : Nat → Nat} (hp : Prm a b p) (ha : a' ≤ a) (hb : b ≤ b') : Prm a' b' p := by
  refine ⟨fun i h => hp.out i (by omega), fun i h k => ?_, hp.inj, fun x h k => ?_⟩
  · by_cases hi : a ≤ i ∧ i < b
    · have := hp.into i hi.1 hi.2; omega
    · rw [hp.out i hi]; exact ⟨h, k⟩
  · by_cases hi : a ≤ x ∧ x < b
    · obtain ⟨y, h1, h2⟩ := hp.onto x hi.1 hi.2; exact ⟨y, by omega, h2⟩
    · exact ⟨x, ⟨h, k⟩, hp.out x hi⟩
/-- Two places change their contents. -/
def swpF (j k i : Nat) : Nat := if i = j then k else if i = k then j else i
theorem Prm.swp {a b j k : Nat} (hj : a ≤ j ∧ j < b) (hk : a ≤ k ∧ k < b) : Prm a b (swpF j k) := by
  refine ⟨fun i h => ?_, fun i h h' => ?_, fun i i' h => ?_, fun x h h' => ⟨swpF j k x, ?_, ?_⟩⟩ <;> unfold swpF at * <;> grind
theorem Prm.of {a b : Nat} {p q : Nat → Nat} (hp : Prm a b p) (h : ∀ i, q i = p i) : Prm a b q := by
  have : q = p := funext h
  rw [this]; exact hp
/-- The order: by the key, then by the place at the beginning. -/
def Lt (K : Nat → Int) (x y : Nat) : Prop := K x < K y ∨ (K x = K y ∧ x < y)
theorem Lt.trans {K : Nat → Int} {x y z : Nat} (h : Lt K x y) (h' : Lt K y z) : Lt K x z := by unfold Lt at *; omega
/-- In order from a on, below b. -/
def Srt (K : Nat → Int) (f : Nat → Nat) (a b : Nat) : Prop := ∀ i j, a ≤ i → i < j → j < b → Lt K (f i) (f j)
/-- What lies to the left of m began to the left of what lies to its right. -/
def Low (f : Nat → Nat) (a m b : Nat) : Prop := ∀ i j, a ≤ i → i < m → m ≤ j → j < b → f i < f j
/-- The places from a on, below b, rearranged so that they are in order. -/
def Sorts (K : Nat → Int) (a b : Nat) (f g : Nat → Nat) : Prop := ∃ p, Prm a b p ∧ g = f ∘ p ∧ Srt K g a b
/-! ### Insertion -/
/-- What lies at j is on its way down from i. -/
def InsR (K : Nat → Int) (a i : Nat) (f : Nat → Nat) (j : Nat) (g : Nat → Nat) : Prop :=
  (a ≤ j ∧ j ≤ i) ∧ (∃ p, Prm a (i + 1) p ∧ g = f ∘ p) ∧ (∀ x y, a ≤ x → x < y → y ≤ i → y ≠ j → Lt K (g x) (g y)) ∧ ∀ x, a ≤ x → x ≤ i → x ≠ j → g x < g j
theorem InsR.start {K : Nat → Int} {a i : Nat} {f : Nat → Nat} (ha : a ≤ i) (hs : Srt K f a i) (hl : ∀ x, a ≤ x → x < i → f x < f i) : InsR K a i f i f :=
  ⟨⟨ha, Nat.le_refl _⟩, ⟨id, Prm.refl _ _, rfl⟩, fun x y h1 h2 h3 h4 => hs x y h1 h2 (by omega), fun x h1 h2 h3 => hl x h1 (by omega)⟩
theorem InsR.step {K : Nat → Int} {a i j : Nat} {f g : Nat → Nat} (h : InsR K a i f (j + 1) g) (hj : a ≤ j) (hk : K (g (j + 1)) < K (g j)) : InsR K a i f j (g ∘ swpF (j + 1) j) := by
  obtain ⟨h0, ⟨p, hp, rfl⟩, h1, h2⟩ := h
  have e1 : ((f ∘ p) ∘ swpF (j + 1) j) j = (f ∘ p) (j + 1) := by simp [swpF]
  have e2 : ((f ∘ p) ∘ swpF (j + 1) j) (j + 1) = (f ∘ p) j := by simp [swpF]
  have e3 : ∀ x, x ≠ j → x ≠ j + 1 → ((f ∘ p) ∘ swpF (j + 1) j) x = (f ∘ p) x := fun x hx hy => by simp [swpF, hx, hy]
  refine ⟨by omega, ⟨p ∘ swpF (j + 1) j, hp.comp (Prm.swp (by omega) (by omega)), rfl⟩, ?_, ?_⟩
  · intro x y hx hxy hy hne
    by_cases c1 : y = j + 1
    · subst c1
      by_cases c2 : x = j
      · subst c2; rw [e1, e2]; exact .inl hk
      · rw [e2, e3 x c2 (by omega)]; exact h1 x j hx (by omega) (by omega) (by omega)
    · by_cases c2 : x = j
      · subst c2; rw [e1, e3 y (by omega) c1]; exact h1 (x + 1) y (by omega) (by omega) hy (by omega)
      · by_cases c3 : x = j + 1
        · subst c3; rw [e2, e3 y (by omega) (by omega)]; exact h1 j y (by omega) (by omega) hy (by omega)
        · rw [e3 x c2 c3, e3 y hne c1]; exact h1 x y hx hxy hy c1
  · intro x hx hxi hne
    by_cases c : x = j + 1
    · subst c; rw [e1, e2]; exact h2 j hj (by omega) (by omega)
    · rw [e1, e3 x hne c]; exact h2 x hx hxi c
theorem InsR.done {K : Nat → Int} {a i j : Nat} {f g : Nat → Nat} (h : InsR K a i f j g) (hk : j = a ∨ ∃ d, j = d + 1 ∧ a ≤ d ∧ ¬ K (g j) < K (g d)) : Sorts K a (i + 1) f g := by
  obtain ⟨h0, ⟨p, hp, rfl⟩, h1, h2⟩ := h
  refine ⟨p, hp, rfl, fun x y hx hxy hy => ?_⟩
  by_cases c : y = j
  · subst c
    rcases hk with rfl | ⟨d, rfl, hd, hk⟩
    · omega
    · have e : Lt K ((f ∘ p) d) ((f ∘ p) (d + 1)) := by
        have := h2 d hd (by omega) (by omega)
        unfold Lt; omega
      by_cases c2 : x = d
      · subst c2; exact e
      · exact (h1 x d hx (by omega) (by omega) (by omega)).trans e
  · exact h1 x y hx hxy (by omega) c
/-- i elements are in order; those from i on are as they were. -/
def InsO (K : Nat → Int) (a : Nat) (f : Nat → Nat) (i : Nat) (g : Nat → Nat) : Prop := Sorts K a i f g
theorem InsO.start {K : Nat → Int} {a i : Nat} {f : Nat → Nat} (h : i ≤ a + 1) : InsO K a f i f := ⟨id, Prm.refl _ _, rfl, fun x y hx hxy hy => by omega⟩
/-- The beginning is in the order of the places. -/
def Inc (f : Nat → Nat) (a b : Nat) : Prop := ∀ i j, a ≤ i → i < j → j < b → f i < f j
theorem InsO.inner {K : Nat → Int} {a b i : Nat} {f g : Nat → Nat} (hI : Inc f a b) (h : InsO K a f i g) (ha : a < i) (hi : i < b) : InsR K a i g i g := by
  obtain ⟨p, hp, rfl, hs⟩ := h
  refine InsR.start (by omega) hs fun x hx hxi => ?_
  have e : p i = i := hp.out i (by omega)
  obtain ⟨h1, h2⟩ := hp.into x hx hxi
  show f (p x) < f (p i)
  rw [e]
  exact hI _ _ h1 h2 hi
theorem InsO.next {K : Nat → Int} {a i : Nat} {f g k : Nat → Nat} (h : InsO K a f i g) (h' : Sorts K a (i + 1) g k) : InsO K a f (i + 1) k := by
  obtain ⟨p, hp, rfl, _⟩ := h
  obtain ⟨q, hq, rfl, hs⟩ := h'
  exact ⟨p ∘ q, (hp.mono (Nat.le_refl _) (by omega)).comp hq, rfl, hs⟩
/-! ### Ranges swapped, and rotated -/
def swR (a b i : Nat) (f : Nat → Nat) (x : Nat) : Nat := if a ≤ x ∧ x < a + i then f (x - a + b) else if b ≤ x ∧ x < b + i then f (x - b + a) else f x
theorem swR_zero (a b : Nat) (f : Nat → Nat) : swR a b 0 f = f := by
  funext x; unfold swR; rw [if_neg (by omega), if_neg (by omega)]
theorem swR_succ {a b i n : Nat} (f : Nat → Nat) (h : a + n ≤ b) (hi : i < n) : swR a b i f ∘ swpF (a + i) (b + i) = swR a b (i + 1) f := by
  funext x
  show swR a b i f (swpF (a + i) (b + i) x) = swR a b (i + 1) f x
  unfold swR swpF
  grind
def rotF (a m b : Nat) (f : Nat → Nat) (x : Nat) : Nat := if a ≤ x ∧ x < a + (b - m) then f (x + (m - a)) else if a + (b - m) ≤ x ∧ x < b then f (x - (b - m)) else f x
theorem rot_gt {m i j : Nat} (f : Nat → Nat) (hi : j < i) (hm : i ≤ m) (hj : 0 < j) : rotF (m - (i - j)) m (m + j) (swR (m - i) m j f) = rotF (m - i) m (m + j) f := by
  funext x
  unfold rotF swR
  grind
theorem rot_lt {m i j : Nat} (f : Nat → Nat) (hi : i < j) (hm : i ≤ m) (h0 : 0 < i) : rotF (m - i) m (m + (j - i)) (swR (m - i) (m + j - i) i f) = rotF (m - i) m (m + j) f := by
  funext x
  unfold rotF swR
  grind
theorem rot_eq {m i : Nat} (f : Nat → Nat) (hm : i ≤ m) : swR (m - i) m i f = rotF (m - i) m (m + i) f := by
  funext x
  unfold rotF swR
  grind
theorem rot_prm {a m b : Nat} (h1 : a ≤ m) (h2 : m ≤ b) : Prm a b (rotF a m b id) := by
  refine ⟨fun i h => ?_, fun i h h' => ?_, fun i i' h => ?_, fun x h h' => ?_⟩
  · simp only [rotF, id] at *; grind
  · simp only [rotF, id] at *; grind
  · simp only [rotF, id] at *; grind
  · by_cases c : x < m
    · exact ⟨x + (b - m), by omega, by simp only [rotF, id]; rw [if_neg (by omega), if_pos (by omega)]; omega⟩
    · exact ⟨x - (m - a), by omega, by simp only [rotF, id]; rw [if_pos (by omega)]; omega⟩
theorem rot_comp (a m b : Nat) (f : Nat → Nat) : rotF a m b f = f ∘ rotF a m b id := by
  funext x
  show rotF a m b f x = f (rotF a m b id x)
  unfold rotF
  simp only [id]
  split
  · rfl
  · split <;> rfl
theorem rot_at1 {a m b : Nat} {f : Nat → Nat} {x : Nat} (h : a ≤ x) (h' : x < a + (b - m)) : rotF a m b f x = f (x + (m - a)) := by unfold rotF; rw [if_pos ⟨h, h'⟩]
theorem rot_at2 {a m b : Nat} {f : Nat → Nat} {x : Nat} (h : a + (b - m) ≤ x) (h' : x < b) : rotF a m b f x = f (x - (b - m)) := by unfold rotF; rw [if_neg (by omega), if_pos ⟨h, h'⟩]
theorem rot_at3 {a m b : Nat} {f : Nat → Nat} {x : Nat} (hm : a ≤ m) (hb : m ≤ b) (h : x < a ∨ b ≤ x) : rotF a m b f x = f x := by unfold rotF; rw [if_neg (by omega), if_neg (by omega)]
theorem rot_no {a m b : Nat} (f : Nat → Nat) (h : a = m ∨ m = b) : rotF a m b f = f := by
  funext x; unfold rotF
  rcases h with rfl | rfl <;> grind
theorem Srt.le {K : Nat → Int} {f : Nat → Nat} {a b i j : Nat} (h : Srt K f a b) (hi : a ≤ i) (hij : i ≤ j) (hj : j < b) : K (f i) ≤ K (f j) := by
  rcases Nat.eq_or_lt_of_le hij with rfl | h2
  · exact Int.le_refl _
  · have := h i j hi h2 hj
    unfold Lt at this; omega
theorem Srt.sub {K : Nat → Int} {f : Nat → Nat} {a b a' b' : Nat} (h : Srt K f a b) (ha : a ≤ a') (hb : b' ≤ b) : Srt K f a' b' := fun i j h1 h2 h3 => h i j (by omega) h2 (by omega)
theorem Srt.congr {K : Nat → Int} {f g : Nat → Nat} {a b : Nat} (h : Srt K f a b) (he : ∀ x, a ≤ x → x < b → g x = f x) : Srt K g a b := fun i j h1 h2 h3 => by rw [he i h1 (by omega), he j (by omega) h3]; exact h i j h1 h2 h3
theorem Low.congr {f g : Nat → Nat} {a m b : Nat} (h : Low f a m b) (he : ∀ x, a ≤ x → x < b → g x = f x) : Low g a m b := fun i j h1 h2 h3 h4 => by rw [he i h1 (by omega), he j (by omega) h4]; exact h i j h1 h2 h3 h4
/-! ### One element merged into a row -/
def LowR (K : Nat → Int) (f : Nat → Nat) (a m b i j : Nat) : Prop := (m ≤ i ∧ i ≤ j ∧ j ≤ b) ∧ (∀ h, m ≤ h → h < i → K (f h) < K (f a)) ∧ ∀ h, j ≤ h → h < b → ¬ K (f h) < K (f a)
theorem LowR.start (K : Nat → Int) (f : Nat → Nat) (a m b : Nat) (h : m ≤ b) : LowR K f a m b m b := ⟨by omega, fun h h1 h2 => by omega, fun h h1 h2 => by omega⟩
theorem LowR.up {K : Nat → Int} {f : Nat → Nat} {a m b i j h : Nat} (hs : Srt K f m b) (H : LowR K f a m b i j) (h1 : i ≤ h) (h2 : h < j) (hk : K (f h) < K (f a)) : LowR K f a m b (h + 1) j := by
  obtain ⟨h0, hl, hr⟩ := H
  exact ⟨by omega, fun y hy hy2 => by have := hs.le hy (show y ≤ h by omega) (by omega); omega, hr⟩
theorem LowR.down {K : Nat → Int} {f : Nat → Nat} {a m b i j h : Nat} (hs : Srt K f m b) (H : LowR K f a m b i j) (h1 : i ≤ h) (h2 : h < j) (hk : ¬ K (f h) < K (f a)) : LowR K f a m b i h := by
  obtain ⟨h0, hl, hr⟩ := H
  exact ⟨by omega, hl, fun y hy hy2 => by have := hs.le (show m ≤ h by omega) hy hy2; omega⟩
theorem one_left {K : Nat → Int} {f : Nat → Nat} {a b i : Nat} (hs : Srt K f (a + 1) b) (hl : Low f a (a + 1) b) (H : LowR K f a (a + 1) b i i) : Sorts K a b f (rotF a (a + 1) i f) := by
  obtain ⟨h0, hlo, hhi⟩ := H
  refine ⟨rotF a (a + 1) i id, (rot_prm (by omega) (by omega)).mono (Nat.le_refl _) (by omega), rot_comp _ _ _ _, fun x y hx hxy hy => ?_⟩
  by_cases c1 : x < i - 1
  · rw [rot_at1 hx (by omega)]
    by_cases c2 : y < i - 1
    · rw [rot_at1 (by omega) (by omega)]; exact hs _ _ (by omega) (by omega) (by omega)
    · by_cases c3 : y = i - 1
      · subst c3; rw [rot_at2 (by omega) (by omega), show i - 1 - (i - (a + 1)) = a by omega]; exact .inl (hlo _ (by omega) (by omega))
      · rw [rot_at3 (by omega) (by omega) (by omega)]; exact hs _ _ (by omega) (by omega) (by omega)
  · by_cases c2 : x = i - 1
    · subst c2
      rw [rot_at2 (by omega) (by omega), show i - 1 - (i - (a + 1)) = a by omega, rot_at3 (by omega) (by omega) (by omega)]
      have h1 := hhi y (by omega) hy
      have h2 := hl a y (Nat.le_refl _) (by omega) (by omega) hy
      unfold Lt; omega
    · rw [rot_at3 (by omega) (by omega) (by omega), rot_at3 (by omega) (by omega) (by omega)]; exact hs _ _ (by omega) hxy hy
def HighR (K : Nat → Int) (f : Nat → Nat) (a m i j : Nat) : Prop := (a ≤ i ∧ i ≤ j ∧ j ≤ m) ∧ (∀ h, a ≤ h → h < i → ¬ K (f m) < K (f h)) ∧ ∀ h, j ≤ h → h < m → K (f m) < K (f h)
theorem HighR.start (K : Nat → Int) (f : Nat → Nat) (a m : Nat) (h : a ≤ m) : HighR K f a m a m := ⟨by omega, fun h h1 h2 => by omega, fun h h1 h2 => by omega⟩
theorem HighR.up {K : Nat → Int} {f : Nat → Nat} {a m i j h : Nat} (hs : Srt K f a m) (H : HighR K f a m i j) (h1 : i ≤ h) (h2 : h < j) (hk : ¬ K (f m) < K (f h)) : HighR K f a m (h + 1) j := by
  obtain ⟨h0, hl, hr⟩ := H
  exact ⟨by omega, fun y hy hy2 => by have := hs.le hy (show y ≤ h by omega) (by omega); omega, hr⟩
theorem HighR.down {K : Nat → Int} {f : Nat → Nat} {a m i j h : Nat} (hs : Srt K f a m) (H : HighR K f a m i j) (h1 : i ≤ h) (h2 : h < j) (hk : K (f m) < K (f h)) : HighR K f a m i h := by
  obtain ⟨h0, hl, hr⟩ := H
  exact ⟨by omega, hl, fun y hy hy2 => by have := hs.le (show a ≤ h by omega) hy hy2; omega⟩
theorem one_right {K : Nat → Int} {f : Nat → Nat} {a m i : Nat} (hs : Srt K f a m) (hl : Low f a m (m + 1)) (H : HighR K f a m i i) : Sorts K a (m + 1) f (rotF i m (m + 1) f) := by
  obtain ⟨h0, hlo, hhi⟩ := H
  refine ⟨rotF i m (m + 1) id, (rot_prm (by omega) (by omega)).mono (by omega) (Nat.le_refl _), rot_comp _ _ _ _, fun x y hx hxy hy => ?_⟩
  by_cases c1 : y < i
  · rw [rot_at3 (by omega) (by omega) (by omega), rot_at3 (by omega) (by omega) (by omega)]; exact hs _ _ hx hxy (by omega)
  · by_cases c2 : y = i
    · subst c2
      rw [rot_at3 (by omega) (by omega) (by omega), rot_at1 (Nat.le_refl _) (by omega), show y + (m - y) = m by omega]
      have h1 := hlo x hx hxy
      have h2 := hl x m hx (by omega) (Nat.le_refl _) (by omega)
      unfold Lt; omega
    · rw [rot_at2 (a := i) (m := m) (b := m + 1) (x := y) (by omega) hy]
      by_cases c3 : x < i
      · rw [rot_at3 (by omega) (by omega) (by omega)]; exact hs _ _ hx (by omega) (by omega)
      · by_cases c4 : x = i
        · subst c4; rw [rot_at1 (Nat.le_refl _) (by omega), show x + (m - x) = m by omega]; exact .inl (hhi _ (by omega) (by omega))
        · rw [rot_at2 (by omega) (by omega)]; exact hs _ _ (by omega) (by omega) (by omega)
/-! ### Two rows merged -/
/-- The search for the cut: n is the middle and the border added. -/
def CutR (K : Nat → Int) (f : Nat → Nat) (n s0 r0 s r : Nat) : Prop := (s0 ≤ s ∧ s ≤ r ∧ r ≤ r0) ∧ (∀ c, s0 ≤ c → c < s → ¬ K (f (n - 1 - c)) < K (f c)) ∧ ∀ c, r ≤ c → c < r0 → K (f (n - 1 - c)) < K (f c)
theorem CutR.start (K : Nat → Int) (f : Nat → Nat) (n s0 r0 : Nat) (h : s0 ≤ r0) : CutR K f n s0 r0 s0 r0 := ⟨by omega, fun h h1 h2 => by omega, fun h h1 h2 => by omega⟩
/-- Where the search begins. -/
structure SymN (a m b mid n s0 r0 : Nat) : Prop where
  am : a < m
  mb : m < b
  hmid : 2 * mid ≤ a + b ∧ a + b ≤ 2 * mid + 1
  hn : n = mid + m
  hc : (mid < m ∧ s0 = n - b ∧ r0 = mid) ∨ (m ≤ mid ∧ s0 = a ∧ r0 = m)
theorem SymN.bd {a m b mid n s0 r0 c : Nat} (N : SymN a m b mid n s0 r0) (h : s0 ≤ c) (h' : c < r0) : (a ≤ c ∧ c < m) ∧ m ≤ n - 1 - c ∧ n - 1 - c < b := by
  obtain ⟨h1, h2, h3, h4, h5⟩ := N; omega
theorem CutR.up {K : Nat → Int} {f : Nat → Nat} {a m b mid n s0 r0 s r c : Nat} (N : SymN a m b mid n s0 r0) (hs1 : Srt K f a m) (hs2 : Srt K f m b) (H : CutR K f n s0 r0 s r) (h1 : s ≤ c) (h2 : c < r) (hk : ¬ K (f (n - 1 - c)) < K (f c)) : CutR K f n s0 r0 (c + 1) r := by
  obtain ⟨h0, hl, hr⟩ := H
  refine ⟨by omega, fun y hy hy2 => ?_, hr⟩
  have b1 := N.bd hy (show y < r0 by omega)
  have b2 := N.bd (show s0 ≤ c by omega) (show c < r0 by omega)
  have := hs1.le b1.1.1 (show y ≤ c by omega) b2.1.2
  have := hs2.le b2.2.1 (show n - 1 - c ≤ n - 1 - y by omega) b1.2.2
  omega
theorem CutR.down {K : Nat → Int} {f : Nat → Nat} {a m b mid n s0 r0 s r c : Nat} (N : SymN a m b mid n s0 r0) (hs1 : Srt K f a m) (hs2 : Srt K f m b) (H : CutR K f n s0 r0 s r) (h1 : s ≤ c) (h2 : c < r) (hk : K (f (n - 1 - c)) < K (f c)) : CutR K f n s0 r0 s c := by
  obtain ⟨h0, hl, hr⟩ := H
  refine ⟨by omega, hl, fun y hy hy2 => ?_⟩
  have b1 := N.bd (show s0 ≤ y by omega) hy2
  have b2 := N.bd (show s0 ≤ c by omega) (show c < r0 by omega)
  have := hs1.le b2.1.1 hy b1.1.2
  have := hs2.le b1.2.1 (show n - 1 - y ≤ n - 1 - c by omega) b2.2.2
  omega
/-- What is known behind the rotation. -/
structure SymG (K : Nat → Int) (a b mid s e : Nat) (f g : Nat → Nat) : Prop where
  bd : (a ≤ s ∧ s ≤ mid) ∧ (mid ≤ e ∧ e ≤ b) ∧ a < mid ∧ mid < b
  prm : ∃ p, Prm a b p ∧ g = f ∘ p
  s1 : Srt K g a s
  s2 : Srt K g s mid
  l1 : Low g a s mid
  s3 : Srt K g mid e
  s4 : Srt K g e b
  l2 : Low g mid e b
  x : ∀ i j, a ≤ i → i < mid → mid ≤ j → j < b → Lt K (g i) (g j)
theorem sym_cut {K : Nat → Int} {f : Nat → Nat} {a m b mid n s0 r0 s : Nat} (N : SymN a m b mid n s0 r0) (hs1 : Srt K f a m) (hs2 : Srt K f m b) (hl : Low f a m b) (hab : a + 3 ≤ b) (H : CutR K f n s0 r0 s s) : SymG K a b mid s (n - s) f (rotF s m (n - s) f) := by
  obtain ⟨h0, hlo, hhi⟩ := H
  have hb : (a ≤ s ∧ s ≤ m ∧ s ≤ mid) ∧ (m ≤ n - s ∧ n - s ≤ b ∧ mid ≤ n - s) ∧ s + (n - s) = mid + m ∧ a < mid ∧ mid < b := by
    obtain ⟨h1, h2, h3, h4, h5⟩ := N; omega
  have c1 : ∀ i j, a ≤ i → i < s → n - s ≤ j → j < b → ¬ K (f j) < K (f i) := by
    intro i j h1 h2 h3 h4
    by_cases hs : s0 < s
    · have := hlo (s - 1) (by omega) (by omega)
      have e : n - 1 - (s - 1) = n - s := by omega
      rw [e] at this
      have := hs1.le h1 (show i ≤ s - 1 by omega) (by omega)
      have := hs2.le (show m ≤ n - s by omega) h3 h4
      omega
    · obtain ⟨g1, g2, g3, g4, g5⟩ := N; omega
  have c2 : ∀ i j, s ≤ i → i < m → m ≤ j → j < n - s → K (f j) < K (f i) := by
    intro i j h1 h2 h3 h4
    by_cases hs : s < r0
    · have := hhi s (Nat.le_refl _) hs
      have := hs1.le (show a ≤ s by omega) h1 h2
      have := hs2.le h3 (show j ≤ n - 1 - s by omega) (by omega)
      omega
    · obtain ⟨g1, g2, g3, g4, g5⟩ := N; omega
  generalize n - s = e at *
  have r1 : ∀ x, x < s → rotF s m e f x = f x := fun x hx => rot_at3 (by omega) (by omega) (.inl hx)
  have r2 : ∀ x, s ≤ x → x < mid → rotF s m e f x = f (x + (m - s)) := fun x hx hx2 => rot_at1 hx (by omega)
  have r3 : ∀ x, mid ≤ x → x < e → rotF s m e f x = f (x - (e - m)) := fun x hx hx2 => rot_at2 (by omega) hx2
  have r4 : ∀ x, e ≤ x → rotF s m e f x = f x := fun x hx => rot_at3 (by omega) (by omega) (.inr hx)
  refine ⟨by omega, ⟨_, (rot_prm (a := s) (m := m) (b := e) (by omega) (by omega)).mono (by omega) (by omega), rot_comp _ _ _ _⟩, ?_, ?_, ?_, ?_, ?_, ?_, ?_⟩
  · exact (hs1.sub (Nat.le_refl _) (by omega)).congr fun x _ hx => r1 x hx
  · intro i j h1 h2 h3; rw [r2 i h1 (by omega), r2 j (by omega) h3]; exact hs2 _ _ (by omega) (by omega) (by omega)
  · intro i j h1 h2 h3 h4; rw [r1 i h2, r2 j h3 h4]; exact hl _ _ h1 (by omega) (by omega) (by omega)
  · intro i j h1 h2 h3; rw [r3 i h1 (by omega), r3 j (by omega) h3]; exact hs1 _ _ (by omega) (by omega) (by omega)
  · exact (hs2.sub (by omega) (Nat.le_refl _)).congr fun x hx _ => r4 x hx
  · intro i j h1 h2 h3 h4; rw [r3 i h1 h2, r4 j h3]; exact hl _ _ (by omega) (by omega) (by omega) h4
  · intro i j h1 h2 h3 h4
    by_cases d1 : i < s
    · rw [r1 i d1]
      by_cases d2 : j < e
      · rw [r3 j h3 d2]; exact hs1 _ _ h1 (by omega) (by omega)
      · rw [r4 j (by omega)]
        have := c1 i j h1 d1 (by omega) h4
        have := hl i j h1 (by omega) (by omega) h4
        unfold Lt; omega
    · rw [r2 i (by omega) h2]
      by_cases d2 : j < e
      · rw [r3 j h3 d2]; exact .inl (c2 _ _ (by omega) (by omega) (by omega) (by omega))
      · rw [r4 j (by omega)]; exact hs2 _ _ (by omega) (by omega) h4
theorem Sorts.refl {K : Nat → Int} {a b : Nat} {g : Nat → Nat} (h : Srt K g a b) : Sorts K a b g g := ⟨id, Prm.refl _ _, rfl, h⟩
theorem SymG.left {K : Nat → Int} {a b mid s e : Nat} {f g : Nat → Nat} (G : SymG K a b mid s e f g) (h : ¬ (a < s ∧ s < mid)) : Sorts K a mid g g := by
  refine Sorts.refl ?_
  by_cases c : s = a
  · subst c; exact G.s2
  · have := G.bd
    obtain rfl : s = mid := by omega
    exact G.s1
theorem Sorts.out {K : Nat → Int} {a b : Nat} {g k : Nat → Nat} (h : Sorts K a b g k) {x : Nat} (hx : x < a ∨ b ≤ x) : k x = g x := by
  obtain ⟨p, hp, rfl, _⟩ := h
  show g (p x) = g x
  rw [hp.out x (by omega)]
theorem SymG.right {K : Nat → Int} {a b mid s e : Nat} {f g k : Nat → Nat} (G : SymG K a b mid s e f g) (hk : Sorts K a mid g k) (h : ¬ (mid < e ∧ e < b)) : Sorts K mid b k k := by
  refine Sorts.refl (Srt.congr ?_ fun x hx _ => hk.out (.inr hx))
  by_cases c : e = mid
  · subst c; exact G.s4
  · have := G.bd
    obtain rfl : e = b := by omega
    exact G.s3
theorem SymG.right_pre {K : Nat → Int} {a b mid s e : Nat} {f g k : Nat → Nat} (G : SymG K a b mid s e f g) (hk : Sorts K a mid g k) : Srt K k mid e ∧ Srt K k e b ∧ Low k mid e b :=
  ⟨G.s3.congr fun x hx _ => hk.out (.inr hx), G.s4.congr fun x hx _ => hk.out (.inr (by have := G.bd; omega)), G.l2.congr fun x hx _ => hk.out (.inr hx)⟩
theorem SymG.done {K : Nat → Int} {a b mid s e : Nat} {f g k l : Nat → Nat} (G : SymG K a b mid s e f g) (hk : Sorts K a mid g k) (hl : Sorts K mid b k l) : Sorts K a b f l := by
  have hbd := G.bd
  obtain ⟨p, hp, rfl⟩ := G.prm
  have hx := G.x
  obtain ⟨p1, hp1, rfl, t1⟩ := hk
  obtain ⟨p2, hp2, rfl, t2⟩ := hl
  refine ⟨p ∘ p1 ∘ p2, hp.comp ((hp1.mono (Nat.le_refl _) (by omega)).comp (hp2.mono (by omega) (Nat.le_refl _))), rfl, fun i j h1 h2 h3 => ?_⟩
  have o2 : ∀ x, x < mid → p2 x = x := fun x hx => hp2.out x (by omega)
  have o1 : ∀ x, mid ≤ x → p1 x = x := fun x hx => hp1.out x (by omega)
  by_cases c1 : j < mid
  · have := t1 i j h1 h2 c1
    show Lt K ((f ∘ p) (p1 (p2 i))) ((f ∘ p) (p1 (p2 j)))
    rw [o2 i (by omega), o2 j c1]
    exact this
  · by_cases c2 : i < mid
    · obtain ⟨b1, b2⟩ := hp2.into j (by omega) h3
      obtain ⟨b3, b4⟩ := hp1.into i h1 c2
      show Lt K ((f ∘ p) (p1 (p2 i))) ((f ∘ p) (p1 (p2 j)))
      rw [o2 i c2, o1 (p2 j) b1]
      exact hx _ _ b3 b4 b1 b2
    · exact t2 i j (by omega) h2 h3
/-! ### Blocks -/
/-- A stretch that keeps its contents and is in order. -/
def Seg (K : Nat → Int) (g : Nat → Nat) (u v : Nat) : Prop := (∀ i, u ≤ i → i < v → u ≤ g i ∧ g i < v) ∧ Srt K g u v
theorem Seg.congr {K : Nat → Int} {g k : Nat → Nat} {u v : Nat} (h : Seg K g u v) (he : ∀ x, u ≤ x → x < v → k x = g x) : Seg K k u v :=
  ⟨fun i h1 h2 => by rw [he i h1 h2]; exact h.1 i h1 h2, h.2.congr he⟩
/-- Stretches that hold their own, merged. -/
theorem Seg.of {K : Nat → Int} {g k : Nat → Nat} {u v : Nat} (hg : ∀ i, u ≤ i → i < v → u ≤ g i ∧ g i < v) (h : Sorts K u v g k) : Seg K k u v := by
  obtain ⟨p, hp, rfl, hs⟩ := h
  refine ⟨fun i h1 h2 => ?_, hs⟩
  obtain ⟨h3, h4⟩ := hp.into i h1 h2
  exact hg _ h3 h4
theorem Seg.pre {K : Nat → Int} {g : Nat → Nat} {u m v : Nat} (h1 : Seg K g u m) (h2 : Seg K g m v) (hum : u ≤ m) (hmv : m ≤ v) : Low g u m v ∧ ∀ i, u ≤ i → i < v → u ≤ g i ∧ g i < v := by
  refine ⟨fun i j a b c d => ?_, fun i a b => ?_⟩
  · have := h1.1 i a b
    have := h2.1 j c d
    omega
  · by_cases c : i < m
    · have := h1.1 i a c; omega
    · have := h2.1 i (by omega) b; omega
theorem Sorts.prm {K : Nat → Int} {a b n : Nat} {g k : Nat → Nat} (h : Sorts K a b g k) (hg : Prm 0 n g) (hb : b ≤ n) : Prm 0 n k := by
  obtain ⟨p, hp, rfl, _⟩ := h
  exact hg.comp (hp.mono (Nat.zero_le _) hb)
/-- The first A blocks of s are in order, behind them nothing was moved. -/
def BlkR (K : Nat → Int) (n s A : Nat) (g : Nat → Nat) : Prop := Prm 0 n g ∧ (∀ x, A * s ≤ x → g x = x) ∧ ∀ k, k < A → Seg K g (k * s) ((k + 1) * s)
theorem BlkR.start (K : Nat → Int) (n s : Nat) : BlkR K n s 0 id := ⟨Prm.refl _ _, fun _ _ => rfl, fun k h => by omega⟩
theorem BlkR.inc {K : Nat → Int} {n s A b : Nat} {g : Nat → Nat} (h : BlkR K n s A g) : Inc g (A * s) b := fun i j h1 h2 h3 => by rw [h.2.1 i h1, h.2.1 j (by omega)]; exact h2
theorem mul_le_of_lt {k A s : Nat} (h : k < A) : (k + 1) * s ≤ A * s := Nat.mul_le_mul_right _ h
theorem BlkR.own {K : Nat → Int} {n s A v : Nat} {g : Nat → Nat} (h : BlkR K n s A g) : ∀ i, A * s ≤ i → i < v → A * s ≤ g i ∧ g i < v := fun i h1 h2 => by rw [h.2.1 i h1]; exact ⟨h1, h2⟩
theorem BlkR.next {K : Nat → Int} {n s A : Nat} {g k : Nat → Nat} (h : BlkR K n s A g) (hn : (A + 1) * s ≤ n) (hk : Sorts K (A * s) ((A + 1) * s) g k) : BlkR K n s (A + 1) k := by
  refine ⟨hk.prm h.1 hn, fun x hx => ?_, fun j hj => ?_⟩
  · rw [hk.out (.inr hx)]
    exact h.2.1 x (by rw [Nat.succ_mul] at hx; omega)
  · by_cases c : j < A
    · exact (h.2.2 j c).congr fun x _ hx2 => hk.out (.inl (by have := mul_le_of_lt (s := s) c; omega))
    · obtain rfl : j = A := by omega
      exact Seg.of h.own hk
/-- All blocks of s, the last one perhaps shorter, are in order. -/
def AllR (K : Nat → Int) (n s : Nat) (g : Nat → Nat) : Prop := Prm 0 n g ∧ ∀ k, k * s < n → Seg K g (k * s) (min ((k + 1) * s) n)
theorem BlkR.all {K : Nat → Int} {n s A : Nat} {g k : Nat → Nat} (h : BlkR K n s A g) (hA : A * s ≤ n) (hn : n < (A + 1) * s) (hk : Sorts K (A * s) n g k) : AllR K n s k := by
  refine ⟨hk.prm h.1 (Nat.le_refl _), fun j hj => ?_⟩
  by_cases c : j < A
  · have e := mul_le_of_lt (s := s) c
    rw [Nat.min_eq_left (by omega)]
    exact (h.2.2 j c).congr fun x _ hx2 => hk.out (.inl (by omega))
  · by_cases c2 : j = A
    · subst c2
      rw [Nat.min_eq_right (by omega)]
      exact Seg.of h.own hk
    · have e := mul_le_of_lt (s := s) (show A < j by omega)
      omega
/-- The first A pairs of blocks of s are merged. -/
def MgR (K : Nat → Int) (n s A : Nat) (g : Nat → Nat) : Prop := Prm 0 n g ∧ (∀ k, k < A → Seg K g (k * (2 * s)) ((k + 1) * (2 * s))) ∧ ∀ k, 2 * A ≤ k → k * s < n → Seg K g (k * s) (min ((k + 1) * s) n)
theorem AllR.mg {K : Nat → Int} {n s : Nat} {g : Nat → Nat} (h : AllR K n s g) : MgR K n s 0 g := ⟨h.1, fun k hk => by omega, fun k _ hk => h.2 k hk⟩
theorem two_mul' (A s : Nat) : (2 * A) * s = A * (2 * s) ∧ (2 * A + 1) * s = A * (2 * s) + s ∧ (2 * A + 1 + 1) * s = (A + 1) * (2 * s) ∧ (A + 1) * (2 * s) = A * (2 * s) + s + s := by
  have e1 : (2 * A) * s = A * (2 * s) := by rw [Nat.mul_comm 2 A, Nat.mul_assoc]
  have e2 : (2 * A + 1) * s = A * (2 * s) + s := by rw [Nat.succ_mul, e1]
  have e4 : (A + 1) * (2 * s) = A * (2 * s) + s + s := by rw [Nat.succ_mul A (2 * s)]; omega
  exact ⟨e1, e2, by rw [Nat.succ_mul (2 * A + 1) s, e2, e4], e4⟩
theorem MgR.pre {K : Nat → Int} {n s A v : Nat} {g : Nat → Nat} (h : MgR K n s A g) (h0 : 0 < s) (hm : A * (2 * s) + s < v) (hv : v = min (A * (2 * s) + s + s) n) :
    Srt K g (A * (2 * s)) (A * (2 * s) + s) ∧ Srt K g (A * (2 * s) + s) v ∧ Low g (A * (2 * s)) (A * (2 * s) + s) v ∧ ∀ i, A * (2 * s) ≤ i → i < v → A * (2 * s) ≤ g i ∧ g i < v := by
  obtain ⟨e1, e2, e3, e4⟩ := two_mul' A s
  have s1 := h.2.2 (2 * A) (Nat.le_refl _) (by omega)
  have s2 := h.2.2 (2 * A + 1) (by omega) (by omega)
  rw [e1, e2, Nat.min_eq_left (by omega)] at s1
  rw [e2, e3, e4, ← hv] at s2
  obtain ⟨p1, p2⟩ := Seg.pre s1 s2 (by omega) (by omega)
  exact ⟨s1.2, s2.2, p1, p2⟩
theorem MgR.keep {K : Nat → Int} {n s A v : Nat} {g k : Nat → Nat} (h : MgR K n s A g) (hv : v ≤ n) (hv2 : v ≤ (A + 1) * (2 * s)) (hk : Sorts K (A * (2 * s)) v g k) :
    Prm 0 n k ∧ (∀ j, j < A → Seg K k (j * (2 * s)) ((j + 1) * (2 * s))) ∧ ∀ j, 2 * (A + 1) ≤ j → j * s < n → Seg K k (j * s) (min ((j + 1) * s) n) := by
  refine ⟨hk.prm h.1 hv, fun j hj => ?_, fun j hj hn => ?_⟩
  · exact (h.2.1 j hj).congr fun x _ hx2 => hk.out (.inl (by have := mul_le_of_lt (s := 2 * s) hj; omega))
  · refine (h.2.2 j (by omega) hn).congr fun x hx _ => hk.out (.inr ?_)
    have e := Nat.mul_le_mul_right s hj
    obtain ⟨e1, _, _, _⟩ := two_mul' (A + 1) s
    omega
theorem MgR.next {K : Nat → Int} {n s A : Nat} {g k : Nat → Nat} (h : MgR K n s A g) (h0 : 0 < s) (hn : A * (2 * s) + s + s ≤ n) (hk : Sorts K (A * (2 * s)) (A * (2 * s) + s + s) g k) : MgR K n s (A + 1) k := by
  obtain ⟨e1, e2, e3, e4⟩ := two_mul' A s
  obtain ⟨p1, p2, p3⟩ := h.keep hn (by omega) hk
  refine ⟨p1, fun j hj => ?_, p3⟩
  by_cases c : j < A
  · exact p2 j c
  · obtain rfl : j = A := by omega
    rw [e4]
    exact Seg.of (h.pre h0 (by omega) (by omega)).2.2.2 hk
theorem MgR.end_ {K : Nat → Int} {n s A : Nat} {g k : Nat → Nat} (h : MgR K n s A g) (h0 : 0 < s) (hn : n < A * (2 * s) + s + s) (hm : A * (2 * s) + s < n) (hk : Sorts K (A * (2 * s)) n g k) : AllR K n (2 * s) k := by
  obtain ⟨e1, e2, e3, e4⟩ := two_mul' A s
  obtain ⟨p1, p2, p3⟩ := h.keep (Nat.le_refl _) (by omega) hk
  refine ⟨p1, fun j hj => ?_⟩
  by_cases c : j < A
  · have := mul_le_of_lt (s := 2 * s) c
    rw [Nat.min_eq_left (by omega)]
    exact p2 j c
  · by_cases c2 : j = A
    · subst c2
      rw [Nat.min_eq_right (by omega)]
      exact Seg.of (h.pre h0 (by omega) (by omega)).2.2.2 hk
    · have := mul_le_of_lt (s := 2 * s) (show A < j by omega)
      omega
theorem MgR.end0 {K : Nat → Int} {n s A : Nat} {g : Nat → Nat} (h : MgR K n s A g) (hm : n ≤ A * (2 * s) + s) : AllR K n (2 * s) g := by
  obtain ⟨e1, e2, e3, e4⟩ := two_mul' A s
  refine ⟨h.1, fun j hj => ?_⟩
  by_cases c : j < A
  · by_cases c3 : (j + 1) * (2 * s) ≤ n
    · rw [Nat.min_eq_left c3]; exact h.2.1 j c
    · rw [Nat.min_eq_right (by omega)]
      have hs := h.2.1 j c
      refine ⟨fun i h1 h2 => ?_, hs.2.sub (Nat.le_refl _) (by omega)⟩
      have := hs.1 i h1 (by omega)
      have := h.1.into i (Nat.zero_le _) h2
      omega
  · by_cases c2 : j = A
    · subst c2
      rw [Nat.min_eq_right (by omega)]
      have := h.2.2 (2 * j) (Nat.le_refl _) (by omega)
      rwa [e1, e2, Nat.min_eq_right (by omega)] at this
    · have := mul_le_of_lt (s := 2 * s) (show A < j by omega)
      omega
theorem AllR.done {K : Nat → Int} {n s : Nat} {g : Nat → Nat} (h : AllR K n s g) (hs : n ≤ s) : Prm 0 n g ∧ Srt K g 0 n := by
  refine ⟨h.1, ?_⟩
  rcases Nat.eq_zero_or_pos n with rfl | h0
  · intro i j h1 h2 h3; omega
  · have := (h.2 0 (by omega)).2
    rwa [Nat.zero_mul, Nat.zero_add, Nat.one_mul, Nat.min_eq_right hs] at this
/-- There is one order only. -/
theorem prm_uniq {K : Nat → Int} {n : Nat} {p q : Nat → Nat} (hp : Prm 0 n p) (hq : Prm 0 n q) (sp : Srt K p 0 n) (sq : Srt K q 0 n) : ∀ i, i < n → p i = q i := by
  intro i
  induction i using Nat.strongRecOn with
  | ind i ih =>
    intro hi
    obtain ⟨_, h2⟩ := hp.into i (Nat.zero_le _) hi
    obtain ⟨j, ⟨_, hj⟩, ej⟩ := hq.onto (p i) (Nat.zero_le _) h2
    obtain ⟨_, h4⟩ := hq.into i (Nat.zero_le _) hi
    obtain ⟨j', ⟨_, hj'⟩, ej'⟩ := hp.onto (q i) (Nat.zero_le _) h4
    rcases Nat.lt_trichotomy j i with c | c | c
    · have e := ih j c hj
      have := hp.inj j i (by rw [e, ej])
      omega
    · subst c; exact ej.symm
    · rcases Nat.lt_trichotomy j' i with c' | c' | c'
      · have e := ih j' c' hj'
        have := hq.inj j' i (by rw [← e, ej'])
        omega
      · subst c'; exact ej'
      · have l1 := sq i j (Nat.zero_le _) c hj
        have l2 := sp i j' (Nat.zero_le _) c' hj'
        rw [ej] at l1
        rw [ej'] at l2
        unfold Lt at l1 l2
        omega
end Go.Proofs.YtkpdoikjfibflaaGreatDoor
namespace Go.Proofs.YtkpdoikjfibflaaGreatDoor
theorem el_ext {xs ys : List Int} (hl : xs.length = ys.length) (h : ∀ j, j < xs.length → el xs j = el ys j) : xs = ys := by
  apply List.ext_getElem hl
  intro i h1 h2
  have := h i h1
  unfold el at this
  rw [List.getD_eq_getElem?_getD, List.getD_eq_getElem?_getD, List.getElem?_eq_getElem h1, List.getElem?_eq_getElem h2] at this
  simpa using this
theorem el_set (xs : List Int) (i j : Nat) (v : Int) (h : i < xs.length) : el (xs.set i v) j = if i = j then v else el xs j := by
  unfold el
  rw [List.getD_eq_getElem?_getD, List.getD_eq_getElem?_getD, List.getElem?_set]
  by_cases e : i = j
  · subst e; simp [h]
  · simp [e]
/-- The row of five numbers at i. -/
def rowI (X : List Int) (i : Nat) : List Int := [el X (i * 5), el X (i * 5 + 1), el X (i * 5 + 2), el X (i * 5 + 3), el X (i * 5 + 4)]
/-- n rows of five numbers, the row at j being the one that X has at f j. -/
def flatP (X : List Int) (f : Nat → Nat) : Nat → List Int
  | 0 => []
  | n + 1 => flatP X f n ++ rowI X (f n)
theorem flatP_len (X : List Int) (f : Nat → Nat) : ∀ n, (flatP X f n).length = n * 5 := by
  intro n
  induction n with
  | zero => rfl
  | succ n ih => rw [flatP, List.length_append, ih]; simp [rowI]; omega
theorem el_app_lt {L E : List Int} {j : Nat} (h : j < L.length) : el (L ++ E) j = el L j := by
  unfold el; rw [List.getD_eq_getElem?_getD, List.getD_eq_getElem?_getD, List.getElem?_append_left h]
theorem el_app_ge {L E : List Int} {j : Nat} : el (L ++ E) (L.length + j) = el E j := by
  unfold el; rw [List.getD_eq_getElem?_getD, List.getD_eq_getElem?_getD, List.getElem?_append_right (by omega)]; congr 2; omega
theorem rowI_el (X : List Int) (i : Nat) {r : Nat} (h : r < 5) : el (rowI X i) r = el X (i * 5 + r) := by
  match r, h with
  | 0, _ => rfl
  | 1, _ => rfl
  | 2, _ => rfl
  | 3, _ => rfl
  | 4, _ => rfl
theorem flatP_el (X : List Int) (f : Nat → Nat) {j r : Nat} (hr : r < 5) : ∀ n, j < n → el (flatP X f n) (j * 5 + r) = el X (f j * 5 + r) := by
  intro n
  induction n with
  | zero => intro h; omega
  | succ n ih =>
    intro h
    rw [flatP]
    by_cases c : j < n
    · rw [el_app_lt (by rw [flatP_len]; omega)]; exact ih c
    · obtain rfl : j = n := by omega
      have := el_app_ge (L := flatP X f j) (E := rowI X (f j)) (j := r)
      rw [flatP_len] at this
      rw [this, rowI_el X _ hr]
theorem flatP_eq {X Y : List Int} {f : Nat → Nat} {n : Nat} (hl : Y.length = n * 5) (h : ∀ j r, j < n → r < 5 → el Y (j * 5 + r) = el X (f j * 5 + r)) : Y = flatP X f n := by
  refine el_ext (by rw [flatP_len, hl]) fun i hi => ?_
  have e : i = i / 5 * 5 + i % 5 := by omega
  rw [e, flatP_el X f (by omega) n (by omega)]
  exact h _ _ (by omega) (by omega)
theorem flatP_id {X : List Int} {n : Nat} (hl : X.length = n * 5) : X = flatP X id n := flatP_eq hl fun _ _ _ _ => rfl
theorem flatP_congr {X : List Int} {f g : Nat → Nat} {n : Nat} (h : ∀ j, j < n → f j = g j) : flatP X f n = flatP X g n :=
  flatP_eq (flatP_len _ _ _) fun j r hj hr => by rw [flatP_el X f hr n hj, h j hj]
def upd (f : Nat → Nat) (j k x : Nat) : Nat := if x = j then k else f x
/-- A row of five numbers written over the one at j. -/
def set5 (L : List Int) (j : Nat) (a b c d e : Int) : List Int := ((((L.set (j * 5) a).set (j * 5 + 1) b).set (j * 5 + 2) c).set (j * 5 + 3) d).set (j * 5 + 4) e
theorem set5_len (L : List Int) (j : Nat) (a b c d e : Int) : (set5 L j a b c d e).length = L.length := by simp [set5]
theorem flatP_set {X : List Int} {f : Nat → Nat} {n j k : Nat} (hj : j < n) :
    set5 (flatP X f n) j (el X (k * 5)) (el X (k * 5 + 1)) (el X (k * 5 + 2)) (el X (k * 5 + 3)) (el X (k * 5 + 4)) = flatP X (upd f j k) n := by
  have hl := flatP_len X f n
  refine flatP_eq (by rw [set5_len, hl]) fun i r hi hr => ?_
  unfold set5
  rw [el_set _ _ _ _ (by simp only [List.length_set]; omega), el_set _ _ _ _ (by simp only [List.length_set]; omega), el_set _ _ _ _ (by simp only [List.length_set]; omega), el_set _ _ _ _ (by simp only [List.length_set]; omega), el_set _ _ _ _ (by omega), flatP_el X f hr n hi]
  unfold upd
  by_cases c : i = j
  · subst c
    rw [if_pos rfl]
    match r, hr with
    | 0, _ => rw [if_neg (by omega), if_neg (by omega), if_neg (by omega), if_neg (by omega), if_pos (by omega)]; rfl
    | 1, _ => rw [if_neg (by omega), if_neg (by omega), if_neg (by omega), if_pos (by omega)]
    | 2, _ => rw [if_neg (by omega), if_neg (by omega), if_pos (by omega)]
    | 3, _ => rw [if_neg (by omega), if_pos (by omega)]
    | 4, _ => rw [if_pos (by omega)]
  · rw [if_neg c, if_neg (by omega), if_neg (by omega), if_neg (by omega), if_neg (by omega), if_neg (by omega)]
theorem upd_swp (f : Nat → Nat) (j k : Nat) : upd (upd f j (f k)) k (f j) = f ∘ swpF j k := by
  funext x
  show upd (upd f j (f k)) k (f j) x = f (swpF j k x)
  unfold upd swpF
  grind
end Go.Proofs.YtkpdoikjfibflaaGreatDoor
namespace Go.Proofs.YtkpdoikjfibflaaGreatDoor
/-- The place of row m among those below i, from the right. -/
def insP (K : Nat → Int) (f : Nat → Nat) (m : Nat) : Nat → Nat
  | 0 => 0
  | i + 1 => if K m < K (f i) then insP K f m i else i + 1
theorem insP_le (K : Nat → Int) (f : Nat → Nat) (m : Nat) : ∀ i, insP K f m i ≤ i
  | 0 => Nat.le_refl _
  | i + 1 => by
    unfold insP
    split
    · have := insP_le K f m i; omega
    · exact Nat.le_refl _
theorem insP_yes {K : Nat → Int} {f : Nat → Nat} {m i : Nat} (h : K m < K (f i)) : insP K f m (i + 1) = insP K f m i := by rw [insP, if_pos h]
theorem insP_no {K : Nat → Int} {f : Nat → Nat} {m i : Nat} (h : ¬ K m < K (f i)) : insP K f m (i + 1) = i + 1 := by rw [insP, if_neg h]
theorem insP_facts (K : Nat → Int) (f : Nat → Nat) (m : Nat) : ∀ i, (∀ h, insP K f m i ≤ h → h < i → K m < K (f h)) ∧ (insP K f m i = 0 ∨ ∃ d, insP K f m i = d + 1 ∧ ¬ K m < K (f d))
  | 0 => ⟨fun h _ h2 => by omega, .inl rfl⟩
  | i + 1 => by
    obtain ⟨h1, h2⟩ := insP_facts K f m i
    by_cases c : K m < K (f i)
    · rw [insP_yes c]
      refine ⟨fun h h3 h4 => ?_, h2⟩
      by_cases e : h = i
      · subst e; exact c
      · exact h1 h h3 (by omega)
    · rw [insP_no c]
      exact ⟨fun h h3 h4 => by omega, .inr ⟨i, rfl, c⟩⟩
/-- The places in order, one put in behind the other. -/
def srtF (K : Nat → Int) : Nat → Nat → Nat
  | 0 => id
  | m + 1 => rotF (insP K (srtF K m) m m) m (m + 1) (srtF K m)
theorem srtF_ok (K : Nat → Int) : ∀ n, Prm 0 n (srtF K n) ∧ Srt K (srtF K n) 0 n
  | 0 => ⟨Prm.refl _ _, fun i j _ _ h => by omega⟩
  | m + 1 => by
    obtain ⟨hp, hs⟩ := srtF_ok K m
    have e : srtF K m m = m := hp.out m (by omega)
    have hle := insP_le K (srtF K m) m m
    obtain ⟨h1, h2⟩ := insP_facts K (srtF K m) m m
    have hl : Low (srtF K m) 0 m (m + 1) := fun i j _ hi hj hj2 => by
      obtain rfl : j = m := by omega
      rw [e]
      exact (hp.into i (Nat.zero_le _) hi).2
    have H : HighR K (srtF K m) 0 m (insP K (srtF K m) m m) (insP K (srtF K m) m m) := by
      refine ⟨by omega, fun h _ hh => ?_, fun h h3 h4 => by rw [e]; exact h1 h h3 h4⟩
      rw [e]
      rcases h2 with h2 | ⟨d, h2, h3⟩
      · omega
      · have := hs.le (Nat.zero_le h) (show h ≤ d by omega) (by omega)
        omega
    obtain ⟨p, hpp, hpe, hps⟩ := one_right hs hl H
    refine ⟨?_, hps⟩
    show Prm 0 (m + 1) (rotF (insP K (srtF K m) m m) m (m + 1) (srtF K m))
    rw [hpe]
    exact (hp.mono (Nat.le_refl _) (by omega)).comp hpp
/-- The rows X, n of five numbers, sorted by the first number. -/
def keyI (X : List Int) (i : Nat) : Int := el X (i * 5)
def srtL (X : List Int) (n : Nat) : List Int := flatP X (srtF (keyI X) n) n
theorem srtL_len (X : List Int) (n : Nat) : (srtL X n).length = n * 5 := flatP_len _ _ _
theorem srtL_of {X : List Int} {n : Nat} {g : Nat → Nat} (hp : Prm 0 n g) (hs : Srt (keyI X) g 0 n) : flatP X g n = srtL X n := by
  obtain ⟨h1, h2⟩ := srtF_ok (keyI X) n
  exact flatP_congr fun j hj => prm_uniq hp h1 hs h2 j hj
/-- One row more. -/
theorem srtL_succ (X : List Int) (m : Nat) : srtL X (m + 1) = flatP X (srtF (keyI X) m) (insP (keyI X) (srtF (keyI X) m) m m) ++ rowI X m ++ ((srtL X m).drop (insP (keyI X) (srtF (keyI X) m) m m * 5)) := by
  have hle := insP_le (keyI X) (srtF (keyI X) m) m m
  obtain ⟨hp, _⟩ := srtF_ok (keyI X) m
  have e : srtF (keyI X) m m = m := hp.out m (by omega)
  show flatP X (rotF (insP (keyI X) (srtF (keyI X) m) m m) m (m + 1) (srtF (keyI X) m)) (m + 1) = _
  unfold srtL
  generalize srtF (keyI X) m = f at *
  generalize insP (keyI X) f m m = i at *
  have l1 := flatP_len X f i
  have l2 := flatP_len X f m
  refine (flatP_eq ?_ fun j r hj hr => ?_).symm
  · simp only [List.length_append, List.length_drop, l1, l2, rowI, List.length_cons, List.length_nil]
    omega
  · by_cases c1 : j < i
    · rw [rot_at3 (by omega) (by omega) (by omega), List.append_assoc, el_app_lt (by rw [l1]; omega), flatP_el X f hr i c1]
    · by_cases c2 : j = i
      · subst c2
        rw [rot_at1 (Nat.le_refl _) (by omega), show j + (m - j) = m by omega, e, List.append_assoc]
        have := el_app_ge (L := flatP X f j) (E := rowI X m ++ (flatP X f m).drop (j * 5)) (j := r)
        rw [l1] at this
        rw [this, el_app_lt (by simp [rowI]; omega), rowI_el X m hr]
      · rw [rot_at2 (by omega) (by omega), show m + 1 - m = 1 by omega]
        have h5 : (flatP X f i ++ rowI X m).length = i * 5 + 5 := by simp [l1, rowI]
        have := el_app_ge (L := flatP X f i ++ rowI X m) (E := (flatP X f m).drop (i * 5)) (j := (j - 1 - i) * 5 + r)
        rw [h5, show i * 5 + 5 + ((j - 1 - i) * 5 + r) = j * 5 + r by omega] at this
        rw [this]
        have hd : el ((flatP X f m).drop (i * 5)) ((j - 1 - i) * 5 + r) = el (flatP X f m) ((j - 1) * 5 + r) := by
          unfold el
          rw [List.getD_eq_getElem?_getD, List.getD_eq_getElem?_getD, List.getElem?_drop]
          congr 2
          omega
        rw [hd, flatP_el X f hr m (by omega)]
theorem flatP_take (X : List Int) (f : Nat → Nat) {i : Nat} : ∀ m, i ≤ m → (flatP X f m).take (i * 5) = flatP X f i
  | 0, h => by
    have h0 : i = 0 := by omega
    subst h0
    rfl
  | m + 1, h => by
    by_cases c : i = m + 1
    · subst c; rw [List.take_of_length_le (by rw [flatP_len]; exact Nat.le_refl _)]
    · rw [flatP, List.take_append_of_le_length (by rw [flatP_len]; omega)]
      exact flatP_take X f m (by omega)
end Go.Proofs.YtkpdoikjfibflaaGreatDoor
