/- Plain: datum's look and the reference's count and right say the same. No condition; no program. -/
import Derived.Test.YtbhmeapnmpgggaaGreatDoorBase2
namespace Go.Proofs.YtbhmeapnmpgggaaGreatDoor

mutual
def D.depth : D → Nat
  | .mk _ _ _ _ _ _ l => 1 + D.depthL l
def D.depthL : List D → Nat
  | [] => 0
  | d :: l => max d.depth (D.depthL l)
end
theorem D.size_pos (d : D) : 1 ≤ d.size := by rw [D.size_eq]; omega
theorem D.depth_pos (d : D) : 1 ≤ d.depth := by cases d; rw [D.depth]; omega

mutual
theorem D.count_good : ∀ (d : D) (deep left : Int), left ≤ 4096 → deep + d.depth ≤ 17 → (d.size : Int) ≤ left → d.count deep left = ((d.size : Int), deep + d.depth - 1)
  | .mk _ _ _ _ _ _ l, deep, left, hl, h1, h2 => by
    rw [D.depth] at h1
    rw [D.size] at h2
    rw [D.count, if_neg (by omega), D.countL_good l deep left 1 deep hl (by omega) (by omega) (by omega) (by omega) (by omega), D.size, D.depth]
    ext <;> simp <;> omega
theorem D.countL_good : ∀ (l : List D) (deep left n most : Int), left ≤ 4096 → deep ≤ most → most ≤ 16 → 0 ≤ n → n + (D.sizeL l : Int) ≤ left → deep + (D.depthL l : Int) ≤ 16 →
    D.countL l deep left n most = (n + D.sizeL l, max most (deep + D.depthL l))
  | [], deep, left, n, most, _, h, _, _, _, _ => by rw [D.countL]; simp [D.sizeL, D.depthL]; omega
  | x :: l, deep, left, n, most, hl, h, h0, h1, h2, h3 => by
    rw [D.sizeL] at h2 ⊢
    rw [D.depthL] at h3 ⊢
    have hp := D.size_pos x
    have hx := D.count_good x (deep + 1) (left - n) (by omega) (by omega) (by omega)
    rw [D.countL, hx]
    simp only
    rw [if_neg (by omega), D.countL_good l deep left _ _ hl (by omega) (by omega) (by omega) (by omega) (by omega)]
    ext <;> simp <;> omega
end
mutual
theorem D.count_bad : ∀ (d : D) (deep left : Int), left ≤ 4096 → ¬ (deep + d.depth ≤ 17 ∧ (d.size : Int) ≤ left) → (d.count deep left).1 = 4097
  | .mk k i b t A c l, deep, left, hl, h => by
    rw [D.depth, D.size] at h
    rw [D.count]
    by_cases g : 16 < deep ∨ left ≤ 0
    · rw [if_pos g]
    · rw [if_neg g]
      exact D.countL_bad l deep left 1 deep hl (by omega) (by omega) (by omega) (by omega) (by omega)
theorem D.countL_bad : ∀ (l : List D) (deep left n most : Int), left ≤ 4096 → deep ≤ most → most ≤ 16 → 0 ≤ n → n ≤ left → ¬ (n + (D.sizeL l : Int) ≤ left ∧ deep + (D.depthL l : Int) ≤ 16) →
    (D.countL l deep left n most).1 = 4097
  | [], deep, left, n, most, _, h, h0, _, h1, h2 => by
    exfalso
    simp only [D.sizeL, D.depthL] at h2
    omega
  | x :: l, deep, left, n, most, hl, h, h0, h1, h2, h3 => by
    rw [D.sizeL, D.depthL] at h3
    have hp := D.size_pos x
    by_cases g : deep + 1 + x.depth ≤ 17 ∧ (x.size : Int) ≤ left - n
    · have hx := D.count_good x (deep + 1) (left - n) (by omega) (by omega) (by omega)
      rw [D.countL, hx]
      simp only
      rw [if_neg (by omega)]
      exact D.countL_bad l deep left _ _ hl (by omega) (by omega) (by omega) (by omega) (by omega)
    · have hx := D.count_bad x (deep + 1) (left - n) (by omega) g
      rw [D.countL, hx, if_pos (.inl (by omega))]
end

mutual
theorem D.look_good : ∀ (d : D) (deep p m : Int), deep + d.depth ≤ 17 → p + d.size ≤ 4096 → d.right = true → d.look deep p m = (true, p + d.size, max m (deep + d.depth - 1))
  | .mk k i b t A c l, deep, p, m, h1, h2, h3 => by
    rw [D.depth] at h1
    rw [D.size] at h2
    rw [D.right, Bool.and_eq_true] at h3
    rw [D.look, if_neg (by rw [h3.1]; simp; omega), D.lookL_good l (deep + 1) (p + 1) _ (by omega) (by omega) (by omega) h3.2, D.size, D.depth]
    ext <;> simp <;> omega
theorem D.lookL_good : ∀ (l : List D) (deep p m : Int), deep - 1 ≤ m → deep + D.depthL l ≤ 17 → p + D.sizeL l ≤ 4096 → D.rightL l = true → D.lookL l deep p m = (true, p + D.sizeL l, max m (deep + D.depthL l - 1))
  | [], deep, p, m, h, _, _, _ => by rw [D.lookL]; simp [D.sizeL, D.depthL]; omega
  | x :: l, deep, p, m, h, h1, h2, h3 => by
    rw [D.sizeL] at h2 ⊢
    rw [D.depthL] at h1 ⊢
    rw [D.rightL, Bool.and_eq_true] at h3
    have hp := D.depth_pos x
    rw [D.lookL, D.look_good x deep p m (by omega) (by omega) h3.1, if_pos rfl]
    simp only
    rw [D.lookL_good l deep _ _ (by omega) (by omega) (by omega) h3.2]
    ext <;> simp <;> omega
end
mutual
theorem D.look_bad : ∀ (d : D) (deep p m : Int), ¬ (deep + d.depth ≤ 17 ∧ p + d.size ≤ 4096 ∧ d.right = true) → (d.look deep p m).1 = false
  | .mk k i b t A c l, deep, p, m, h => by
    rw [D.depth, D.size, D.right, Bool.and_eq_true] at h
    rw [D.look]
    by_cases g : 4096 < p + 1 ∨ 16 < deep ∨ (D.mk k i b t A c l).head = false
    · rw [if_pos g]
    · rw [if_neg g]
      have hh : (D.mk k i b t A c l).head = true := by
        cases e : (D.mk k i b t A c l).head
        · exact absurd (.inr (.inr e)) g
        · rfl
      exact D.lookL_bad l (deep + 1) (p + 1) _ (by omega) (by omega) (fun ⟨a, b, c⟩ => h ⟨by omega, by omega, hh, c⟩)
theorem D.lookL_bad : ∀ (l : List D) (deep p m : Int), deep ≤ 17 → p ≤ 4096 → ¬ (deep + D.depthL l ≤ 17 ∧ p + D.sizeL l ≤ 4096 ∧ D.rightL l = true) → (D.lookL l deep p m).1 = false
  | [], deep, p, m, h, h', g => absurd ⟨by simp [D.depthL]; omega, by simp [D.sizeL]; omega, by simp [D.rightL]⟩ g
  | x :: l, deep, p, m, h, h', g => by
    rw [D.sizeL, D.depthL, D.rightL, Bool.and_eq_true] at g
    rw [D.lookL]
    by_cases e : deep + x.depth ≤ 17 ∧ p + x.size ≤ 4096 ∧ x.right = true
    · rw [D.look_good x deep p m e.1 e.2.1 e.2.2, if_pos rfl]
      exact D.lookL_bad l deep _ _ h (by simp only; omega) (fun ⟨a, b, c⟩ => g ⟨by omega, by simp only at b; omega, e.2.2, c⟩)
    · rw [if_neg (by rw [D.look_bad x deep p m e]; simp)]
end

def D.valid0 (d : D) : Bool := (d.look 1 0 0).1
def D.valid1 (d : D) : Bool := decide ((d.count 1 4096).1 ≤ 4096) && decide ((d.count 1 4096).2 ≤ 16) && d.right
/-- what both say -/
def D.Ok (d : D) : Prop := d.depth ≤ 16 ∧ d.size ≤ 4096 ∧ d.right = true
theorem D.valid0_iff (d : D) : d.valid0 = true ↔ d.Ok := by
  unfold D.valid0
  constructor
  · intro h
    by_cases g : (1 : Int) + d.depth ≤ 17 ∧ (0 : Int) + d.size ≤ 4096 ∧ d.right = true
    · exact ⟨by omega, by omega, g.2.2⟩
    · rw [D.look_bad d 1 0 0 g] at h; cases h
  · rintro ⟨h1, h2, h3⟩
    rw [D.look_good d 1 0 0 (by omega) (by omega) h3]
theorem D.valid1_iff (d : D) : d.valid1 = true ↔ d.Ok := by
  unfold D.valid1
  rw [Bool.and_eq_true, Bool.and_eq_true, decide_eq_true_eq, decide_eq_true_eq]
  constructor
  · rintro ⟨⟨h1, h2⟩, h3⟩
    by_cases g : (1 : Int) + d.depth ≤ 17 ∧ (d.size : Int) ≤ 4096
    · exact ⟨by omega, by omega, h3⟩
    · rw [D.count_bad d 1 4096 (by omega) g] at h1; omega
  · rintro ⟨h1, h2, h3⟩
    rw [D.count_good d 1 4096 (by omega) (by omega) (by omega)]
    exact ⟨⟨by simp only; omega, by simp only; omega⟩, h3⟩
theorem D.valid_eq (d : D) : d.valid0 = d.valid1 := by
  rw [Bool.eq_iff_iff, D.valid0_iff, D.valid1_iff]
theorem D.parts_eq (d : D) (h : d.Ok) : (d.look 1 0 0).2 = d.count 1 4096 ∧ d.count 1 4096 = ((d.size : Int), (d.depth : Int)) := by
  obtain ⟨h1, h2, h3⟩ := h
  have hp := D.depth_pos d
  rw [D.count_good d 1 4096 (by omega) (by omega) (by omega), D.look_good d 1 0 0 (by omega) (by omega) h3]
  exact ⟨by ext <;> simp <;> omega, by ext <;> simp <;> omega⟩
end Go.Proofs.YtbhmeapnmpgggaaGreatDoor
