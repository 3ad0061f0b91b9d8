/- Plain: errs' look and the reference's count, right and weight say the same. No condition; no program. -/
import Derived.Test.YtbhmeapnmpgggaaGreatDoorBaseE
namespace Go.Proofs.YtbhmeapnmpgggaaGreatDoor

mutual
def E.depth : E → Nat
  | .mk _ _ _ _ _ _ _ _ _ _ l => 1 + E.depthL l
def E.depthL : List E → Nat
  | [] => 0
  | d :: l => max d.depth (E.depthL l)
end
/-- the part of a body in the weight -/
def E.ownN (e : E) : Int := e.codes.length + if e.k = 5 then (e.body.size : Int) else 0
mutual
def E.wsum : E → Int
  | .mk k id code t body cA cc codes A c l => (E.mk k id code t body cA cc codes A c l).ownN + E.wsumL l
def E.wsumL : List E → Int
  | [] => 0
  | d :: l => d.wsum + E.wsumL l
end
theorem E.size_pos (d : E) : 1 ≤ d.size := by rw [E.size_eq]; omega
theorem E.depth_pos (d : E) : 1 ≤ d.depth := by cases d; rw [E.depth]; omega
theorem E.ownN_pos (d : E) : 0 ≤ d.ownN := by unfold E.ownN; split <;> omega
mutual
theorem E.wsum_pos : ∀ (d : E), 0 ≤ d.wsum
  | .mk k id code t body cA cc codes A c l => by have := E.ownN_pos (.mk k id code t body cA cc codes A c l); have := E.wsumL_pos l; rw [E.wsum]; omega
theorem E.wsumL_pos : ∀ (l : List E), 0 ≤ E.wsumL l
  | [] => by rw [E.wsumL]; omega
  | x :: l => by have := E.wsum_pos x; have := E.wsumL_pos l; rw [E.wsumL]; omega
end

mutual
theorem E.count_good : ∀ (d : E) (deep left : Int), left ≤ 4096 → deep + d.depth ≤ 17 → (d.size : Int) ≤ left → d.count deep left = (d.size : Int)
  | .mk _ _ _ _ _ _ _ _ _ _ l, deep, left, hl, h1, h2 => by
    rw [E.depth] at h1
    rw [E.size] at h2
    rw [E.count, if_neg (by omega), E.countL_good l deep left 1 hl (by omega) (by omega) (by omega), E.size]
    omega
theorem E.countL_good : ∀ (l : List E) (deep left n : Int), left ≤ 4096 → 0 ≤ n → n + (E.sizeL l : Int) ≤ left → deep + (E.depthL l : Int) ≤ 16 → E.countL l deep left n = n + E.sizeL l
  | [], deep, left, n, _, _, _, _ => by rw [E.countL]; simp [E.sizeL]
  | x :: l, deep, left, n, hl, h0, h2, h3 => by
    rw [E.sizeL] at h2 ⊢
    rw [E.depthL] at h3
    have hp := E.size_pos x
    have hx := E.count_good x (deep + 1) (left - n) (by omega) (by omega) (by omega)
    rw [E.countL, hx, if_neg (by omega), E.countL_good l deep left _ hl (by omega) (by omega) (by omega)]
    omega
end
mutual
theorem E.count_bad : ∀ (d : E) (deep left : Int), left ≤ 4096 → ¬ (deep + d.depth ≤ 17 ∧ (d.size : Int) ≤ left) → d.count deep left = 4097
  | .mk _ _ _ _ _ _ _ _ _ _ l, deep, left, hl, h => by
    rw [E.depth, E.size] at h
    rw [E.count]
    by_cases g : 16 < deep ∨ left ≤ 0
    · rw [if_pos g]
    · rw [if_neg g]
      exact E.countL_bad l deep left 1 hl (by omega) (by omega) (by omega) (by omega)
theorem E.countL_bad : ∀ (l : List E) (deep left n : Int), left ≤ 4096 → deep ≤ 16 → 0 ≤ n → n ≤ left → ¬ (n + (E.sizeL l : Int) ≤ left ∧ deep + (E.depthL l : Int) ≤ 16) → E.countL l deep left n = 4097
  | [], deep, left, n, _, hd, h1, h1', h2 => by
    exfalso
    simp only [E.sizeL, E.depthL] at h2
    omega
  | x :: l, deep, left, n, hl, hd, h1, h1', h3 => by
    rw [E.sizeL, E.depthL] at h3
    have hp := E.size_pos x
    by_cases g : deep + 1 + x.depth ≤ 17 ∧ (x.size : Int) ≤ left - n
    · have hx := E.count_good x (deep + 1) (left - n) (by omega) (by omega) (by omega)
      rw [E.countL, hx, if_neg (by omega)]
      exact E.countL_bad l deep left _ hl hd (by omega) (by omega) (by omega)
    · have hx := E.count_bad x (deep + 1) (left - n) (by omega) g
      rw [E.countL, hx, if_pos (by omega)]
end

theorem E.fit_body {d : E} (h : d.fit = true) (h5 : d.k = 5) : d.body.Ok := by
  unfold E.fit E.bodyOk at h
  rw [Bool.and_eq_true] at h
  have h2 := h.2
  rw [show E.fBody d.k = true by rw [h5]; rfl, if_pos rfl] at h2
  exact (D.valid0_iff _).1 h2
theorem E.own0_eq {d : E} (h : d.fit = true) : d.own0 = d.ownN := by
  unfold E.own0 E.ownN
  by_cases h5 : d.k = 5
  · have := D.parts_eq d.body (E.fit_body h h5)
    rw [if_pos h5, if_pos h5, this.1, this.2]
  · rw [if_neg h5, if_neg h5]
theorem E.own_eq {d : E} (h : d.fit = true) : d.own = d.ownN := by
  unfold E.own E.ownN
  by_cases h5 : d.k = 5
  · have := D.parts_eq d.body (E.fit_body h h5)
    rw [if_pos h5, if_pos h5, this.2]
  · rw [if_neg h5, if_neg h5]

mutual
theorem E.weight_iff : ∀ (d : E), d.right = true → (d.weight ≤ 4096 ↔ d.wsum ≤ 4096) ∧ (d.wsum ≤ 4096 → d.weight = d.wsum)
  | .mk k id code t body cA cc codes A c l, h => by
    rw [E.right, Bool.and_eq_true] at h
    have := E.weightL_iff k l (E.mk k id code t body cA cc codes A c l).ownN (E.ownN_pos _) h.2
    rw [E.weight, E.wsum, E.own_eq h.1]
    exact this
theorem E.weightL_iff (k : Int) : ∀ (l : List E) (n : Int), 0 ≤ n → E.rightL k l = true → (E.weightL l n ≤ 4096 ↔ n + E.wsumL l ≤ 4096) ∧ (n + E.wsumL l ≤ 4096 → E.weightL l n = n + E.wsumL l)
  | [], n, _, _ => by rw [E.weightL, E.wsumL]; simp
  | x :: l, n, hn, h => by
    rw [E.rightL, Bool.and_eq_true, Bool.and_eq_true] at h
    have hx := E.weight_iff x h.1.2
    have hp := E.wsum_pos x
    have hlp := E.wsumL_pos l
    rw [E.weightL, E.wsumL]
    by_cases g : 4096 < n + x.weight
    · rw [if_pos g]
      by_cases g2 : x.wsum ≤ 4096
      · have := hx.2 g2; omega
      · have := hx.1; omega
    · rw [if_neg g]
      by_cases g2 : x.wsum ≤ 4096
      · have hl := E.weightL_iff k l (n + x.wsum) (by omega) h.2
        rw [hx.2 g2, ← Int.add_assoc]
        exact hl
      · have := hx.1; omega
end

mutual
theorem E.look_good : ∀ (d : E) (deep p m : Int), deep + d.depth ≤ 17 → p + d.size ≤ 4096 → 0 ≤ m → m + d.wsum ≤ 4096 → d.right = true → d.look deep p m = (true, p + d.size, m + d.wsum)
  | .mk k id code t body cA cc codes A c l, deep, p, m, h1, h2, h0, hm, h3 => by
    rw [E.depth] at h1
    rw [E.size] at h2
    rw [E.right, Bool.and_eq_true] at h3
    rw [E.wsum] at hm ⊢
    have := E.ownN_pos (.mk k id code t body cA cc codes A c l)
    rw [E.look, if_neg (by rw [h3.1]; simp; omega), E.own0_eq h3.1, E.lookL_good k l (deep + 1) (p + 1) _ (by omega) (by omega) (by omega) (by omega) h3.2, E.size]
    ext <;> simp <;> omega
theorem E.lookL_good (k : Int) : ∀ (l : List E) (deep p m : Int), deep + E.depthL l ≤ 17 → p + E.sizeL l ≤ 4096 → 0 ≤ m → m + E.wsumL l ≤ 4096 → E.rightL k l = true → E.lookL k l deep p m = (true, p + E.sizeL l, m + E.wsumL l)
  | [], deep, p, m, _, _, _, hm, _ => by rw [E.wsumL] at hm; rw [E.lookL]; simp [E.sizeL, E.wsumL]; omega
  | x :: l, deep, p, m, h1, h2, h0, hm, h3 => by
    rw [E.sizeL] at h2 ⊢
    rw [E.depthL] at h1
    rw [E.wsumL] at hm ⊢
    rw [E.rightL, Bool.and_eq_true, Bool.and_eq_true] at h3
    have hp := E.wsum_pos x
    have hp2 := E.wsumL_pos l
    have hk : ¬ (k ≠ 4 ∧ x.k = 0) := by
      rintro ⟨a, b⟩
      have := h3.1.1
      simp [a, b] at this
    rw [E.lookL, if_neg hk, E.look_good x deep p m (by omega) (by omega) h0 (by omega) h3.1.2, if_pos rfl]
    simp only
    rw [E.lookL_good k l deep _ _ (by omega) (by omega) (by omega) (by omega) h3.2]
    ext <;> simp <;> omega
end
mutual
theorem E.look_bad : ∀ (d : E) (deep p m : Int), 0 ≤ m → ¬ (deep + d.depth ≤ 17 ∧ p + d.size ≤ 4096 ∧ m + d.wsum ≤ 4096 ∧ d.right = true) → (d.look deep p m).1 = false
  | .mk k id code t body cA cc codes A c l, deep, p, m, h0, h => by
    rw [E.depth, E.size, E.wsum, E.right, Bool.and_eq_true] at h
    have := E.ownN_pos (.mk k id code t body cA cc codes A c l)
    rw [E.look]
    by_cases g : 4096 < p + 1 ∨ 16 < deep ∨ (E.mk k id code t body cA cc codes A c l).fit = false
    · rw [if_pos g]
    · rw [if_neg g]
      have hh : (E.mk k id code t body cA cc codes A c l).fit = true := by
        cases e : (E.mk k id code t body cA cc codes A c l).fit
        · exact absurd (.inr (.inr e)) g
        · rfl
      rw [E.own0_eq hh]
      exact E.lookL_bad k l (deep + 1) (p + 1) _ (by omega) (by omega) (by omega) (fun ⟨a, b, c, d⟩ => h ⟨by omega, by omega, by omega, hh, d⟩)
theorem E.lookL_bad (k : Int) : ∀ (l : List E) (deep p m : Int), deep ≤ 17 → p ≤ 4096 → 0 ≤ m → ¬ (deep + E.depthL l ≤ 17 ∧ p + E.sizeL l ≤ 4096 ∧ m + E.wsumL l ≤ 4096 ∧ E.rightL k l = true) → (E.lookL k l deep p m).1 = false
  | [], deep, p, m, h, h', h0, g => by
    rw [E.lookL]
    simp only [E.depthL, E.sizeL, E.wsumL, E.rightL] at g
    simp only [decide_eq_false_iff_not]
    intro hm
    exact g ⟨by omega, by omega, by omega, trivial⟩
  | x :: l, deep, p, m, h, h', h0, g => by
    rw [E.sizeL, E.depthL, E.wsumL, E.rightL, Bool.and_eq_true, Bool.and_eq_true] at g
    have hp := E.wsum_pos x
    rw [E.lookL]
    by_cases hk : k ≠ 4 ∧ x.k = 0
    · rw [if_pos hk]
    · rw [if_neg hk]
      have hk' : (k == 4 || x.k != 0) = true := by
        by_cases a : k = 4
        · simp [a]
        · have : x.k ≠ 0 := fun b => hk ⟨a, b⟩
          simp [this]
      by_cases e : deep + x.depth ≤ 17 ∧ p + x.size ≤ 4096 ∧ m + x.wsum ≤ 4096 ∧ x.right = true
      · rw [E.look_good x deep p m e.1 e.2.1 h0 e.2.2.1 e.2.2.2, if_pos rfl]
        exact E.lookL_bad k l deep _ _ h (by simp only; omega) (by simp only; omega) (fun ⟨a, b, c, d⟩ => g ⟨by omega, by simp only at b; omega, by simp only at c; omega, ⟨hk', e.2.2.2⟩, d⟩)
      · rw [if_neg (by rw [E.look_bad x deep p m h0 e]; simp)]
end

/-- what both say -/
def E.Ok (d : E) : Prop := d.depth ≤ 16 ∧ d.size ≤ 4096 ∧ d.wsum ≤ 4096 ∧ d.right = true
theorem E.valid0_iff (d : E) : d.valid0 = true ↔ d.Ok := by
  unfold E.valid0
  constructor
  · intro h
    by_cases g : (1 : Int) + d.depth ≤ 17 ∧ (0 : Int) + d.size ≤ 4096 ∧ 0 + d.wsum ≤ 4096 ∧ d.right = true
    · exact ⟨by omega, by omega, by omega, g.2.2.2⟩
    · rw [E.look_bad d 1 0 0 (by omega) g] at h; cases h
  · rintro ⟨h1, h2, h3, h4⟩
    rw [E.look_good d 1 0 0 (by omega) (by omega) (by omega) (by omega) h4]
theorem E.valid1_iff (d : E) : d.valid1 = true ↔ d.Ok := by
  unfold E.valid1
  rw [Bool.and_eq_true, Bool.and_eq_true, decide_eq_true_eq, decide_eq_true_eq]
  constructor
  · rintro ⟨⟨h1, h2⟩, h3⟩
    have hw := (E.weight_iff d h2).1.1 h3
    by_cases g : (1 : Int) + d.depth ≤ 17 ∧ (d.size : Int) ≤ 4096
    · exact ⟨by omega, by omega, hw, h2⟩
    · rw [E.count_bad d 1 4096 (by omega) g] at h1; omega
  · rintro ⟨h1, h2, h3, h4⟩
    rw [E.count_good d 1 4096 (by omega) (by omega) (by omega)]
    exact ⟨⟨by omega, h4⟩, (E.weight_iff d h4).1.2 h3⟩
theorem E.valid_eq (d : E) : d.valid0 = d.valid1 := by
  rw [Bool.eq_iff_iff, E.valid0_iff, E.valid1_iff]
end Go.Proofs.YtbhmeapnmpgggaaGreatDoor
