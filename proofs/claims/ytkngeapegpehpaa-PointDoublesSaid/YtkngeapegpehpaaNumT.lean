/- Numbers: primes by what divides a number less one, powers mod a prime. Plain numbers; nothing here names a program. -/
namespace Go.Nt
def Pr (n : Nat) : Prop := 1 < n ∧ ∀ m, m ∣ n → m = 1 ∨ m = n
theorem Pr.coprime {p a : Nat} (hp : Pr p) (h : ¬ p ∣ a) : Nat.Coprime p a := by
  rcases hp.2 (Nat.gcd p a) (Nat.gcd_dvd_left p a) with h1 | h1
  · exact h1
  · exact absurd (h1 ▸ Nat.gcd_dvd_right p a) h
theorem Pr.dvd_mul {p a b : Nat} (hp : Pr p) (h : p ∣ a * b) : p ∣ a ∨ p ∣ b := by
  by_cases ha : p ∣ a
  · exact .inl ha
  · exact .inr ((hp.coprime ha).dvd_of_dvd_mul_left h)

/-! Pascal's triangle -/
def ch : Nat → Nat → Nat
  | _, 0 => 1
  | 0, _ + 1 => 0
  | n + 1, k + 1 => ch n k + ch n (k + 1)
theorem ch_zero (n : Nat) : ch n 0 = 1 := by cases n <;> rfl
theorem ch_succ (n k : Nat) : ch (n + 1) (k + 1) = ch n k + ch n (k + 1) := rfl
theorem ch_above : ∀ (n k : Nat), n < k → ch n k = 0
  | 0, k + 1, _ => rfl
  | n + 1, k + 1, h => by rw [ch_succ, ch_above n k (by omega), ch_above n (k + 1) (by omega)]
theorem ch_self : ∀ (n : Nat), ch n n = 1
  | 0 => rfl
  | n + 1 => by rw [ch_succ, ch_self n, ch_above n (n + 1) (by omega)]
theorem ch_absorb : ∀ (n k : Nat), (k + 1) * ch (n + 1) (k + 1) = (n + 1) * ch n k
  | 0, 0 => rfl
  | 0, k + 1 => by rw [ch_succ, ch_above 0 (k + 1) (by omega), ch_above 0 (k + 2) (by omega)]; simp
  | n + 1, 0 => by
    have h := ch_absorb n 0
    rw [ch_succ (n + 1) 0, ch_zero]
    rw [ch_zero] at h
    omega
  | n + 1, k + 1 => by
    have h1 := ch_absorb n k
    have h2 := ch_absorb n (k + 1)
    rw [ch_succ (n + 1) (k + 1), Nat.mul_add, h2, Nat.succ_mul (k + 1), h1]
    have e : ch (n + 1) (k + 1) = ch n k + ch n (k + 1) := rfl
    have e2 : (n + 1 + 1) * ch (n + 1) (k + 1) = (n + 1) * ch (n + 1) (k + 1) + ch (n + 1) (k + 1) := Nat.succ_mul _ _
    rw [e2]
    have e3 : (n + 1) * ch (n + 1) (k + 1) = (n + 1) * ch n k + (n + 1) * ch n (k + 1) := by rw [e, Nat.mul_add]
    omega
theorem Pr.dvd_ch {p k : Nat} (hp : Pr p) (h0 : 0 < k) (h1 : k < p) : p ∣ ch p k := by
  obtain ⟨n, rfl⟩ : ∃ n, p = n + 1 := ⟨p - 1, by have := hp.1; omega⟩
  obtain ⟨j, rfl⟩ : ∃ j, k = j + 1 := ⟨k - 1, by omega⟩
  have h := ch_absorb n j
  have hd : n + 1 ∣ (j + 1) * ch (n + 1) (j + 1) := h ▸ Nat.dvd_mul_right _ _
  rcases hp.dvd_mul hd with h2 | h2
  · exact absurd (Nat.le_of_dvd (by omega) h2) (by omega)
  · exact h2

/-! Sums -/
def sm (f : Nat → Nat) : Nat → Nat
  | 0 => 0
  | m + 1 => sm f m + f m
theorem sm_add (f g : Nat → Nat) : ∀ m, sm (fun k => f k + g k) m = sm f m + sm g m
  | 0 => rfl
  | m + 1 => by simp only [sm, sm_add f g m]; omega
theorem sm_mul (c : Nat) (f : Nat → Nat) : ∀ m, sm (fun k => c * f k) m = c * sm f m
  | 0 => rfl
  | m + 1 => by simp only [sm, sm_mul c f m, Nat.mul_add]
theorem sm_shift (f : Nat → Nat) : ∀ m, sm f (m + 1) = f 0 + sm (fun k => f (k + 1)) m
  | 0 => by simp [sm]
  | m + 1 => by rw [sm, sm_shift f m]; simp only [sm]; omega
theorem sm_congr {f g : Nat → Nat} : ∀ {m : Nat}, (∀ k, k < m → f k = g k) → sm f m = sm g m
  | 0, _ => rfl
  | m + 1, h => by simp only [sm]; rw [sm_congr (m := m) (fun k hk => h k (by omega)), h m (by omega)]
theorem sm_dvd {p : Nat} {f : Nat → Nat} : ∀ {m : Nat}, (∀ k, k < m → p ∣ f k) → p ∣ sm f m
  | 0, _ => Nat.dvd_zero p
  | m + 1, h => Nat.dvd_add (sm_dvd (m := m) (fun k hk => h k (by omega))) (h m (by omega))
theorem binom (x : Nat) : ∀ n, (x + 1) ^ n = sm (fun k => ch n k * x ^ k) (n + 1)
  | 0 => by simp [sm, ch]
  | n + 1 => by
    have ih := binom x n
    have h0 : sm (fun k => ch n (k + 1) * x ^ (k + 1)) (n + 1) + 1 = sm (fun k => ch n k * x ^ k) (n + 1) := by
      have h1 := sm_shift (fun k => ch n k * x ^ k) (n + 1)
      have h2 : sm (fun k => ch n k * x ^ k) (n + 1 + 1) = sm (fun k => ch n k * x ^ k) (n + 1) := by
        show sm (fun k => ch n k * x ^ k) (n + 1) + ch n (n + 1) * x ^ (n + 1) = _
        rw [ch_above n (n + 1) (by omega)]; omega
      rw [h2] at h1
      rw [h1, ch_zero]; simp; omega
    rw [sm_shift, ch_zero]
    have h3 : sm (fun k => ch (n + 1) (k + 1) * x ^ (k + 1)) (n + 1) = x * sm (fun k => ch n k * x ^ k) (n + 1) + sm (fun k => ch n (k + 1) * x ^ (k + 1)) (n + 1) := by
      rw [← sm_mul, ← sm_add]
      refine sm_congr fun k _ => ?_
      rw [ch_succ, Nat.add_mul]
      congr 1
      rw [Nat.pow_succ, Nat.mul_comm x, Nat.mul_assoc]
    rw [h3, Nat.pow_succ, Nat.mul_add, ih, Nat.mul_comm _ x, Nat.pow_zero]
    omega
theorem Pr.binom {p : Nat} (hp : Pr p) (x : Nat) : ∃ m, (x + 1) ^ p = x ^ p + 1 + p * m := by
  obtain ⟨n, rfl⟩ : ∃ n, p = n + 1 := ⟨p - 1, by have := hp.1; omega⟩
  have h := Nt.binom x (n + 1)
  have hs : sm (fun k => ch (n + 1) k * x ^ k) (n + 1 + 1) = sm (fun k => ch (n + 1) k * x ^ k) (n + 1) + ch (n + 1) (n + 1) * x ^ (n + 1) := rfl
  rw [hs, ch_self, sm_shift, ch_zero] at h
  have hd : n + 1 ∣ sm (fun k => ch (n + 1) (k + 1) * x ^ (k + 1)) n := sm_dvd fun k hk => Nat.dvd_trans (hp.dvd_ch (by omega) (by omega)) (Nat.dvd_mul_right _ _)
  obtain ⟨m, hm⟩ := hd
  refine ⟨m, ?_⟩
  rw [h, hm]; simp; omega
theorem Pr.fermat {p : Nat} (hp : Pr p) : ∀ x, x ^ p % p = x % p
  | 0 => by rw [Nat.zero_pow (by have := hp.1; omega)]
  | x + 1 => by
    obtain ⟨m, hm⟩ := hp.binom x
    rw [hm, Nat.add_mul_mod_self_left, Nat.add_mod, hp.fermat x, ← Nat.add_mod]
theorem Pr.fermat1 {p x : Nat} (hp : Pr p) (h : ¬ p ∣ x) : x ^ (p - 1) % p = 1 := by
  have h1 := hp.1
  have hx : x ≠ 0 := fun e => h (e ▸ Nat.dvd_zero p)
  have hpos : 0 < x ^ (p - 1) := Nat.pow_pos (by omega)
  have e : x ^ p = x * x ^ (p - 1) := by
    obtain ⟨n, rfl⟩ : ∃ n, p = n + 1 := ⟨p - 1, by omega⟩
    rw [Nat.pow_succ, Nat.mul_comm]; rfl
  have hf := hp.fermat x
  have hle : x ≤ x * x ^ (p - 1) := Nat.le_mul_of_pos_right x hpos
  have hd : p ∣ x * (x ^ (p - 1) - 1) := by
    rw [Nat.mul_sub, Nat.mul_one]
    rw [e] at hf
    exact Nat.dvd_of_mod_eq_zero (Nat.sub_mod_eq_zero_of_mod_eq hf)
  rcases hp.dvd_mul hd with h2 | h2
  · exact absurd h2 h
  · obtain ⟨k, hk⟩ := h2
    have : x ^ (p - 1) = 1 + p * k := by omega
    rw [this, Nat.add_mul_mod_self_left, Nat.mod_eq_of_lt h1]

/-! Powers mod a number -/
theorem pow_one_mod {r g : Nat} (hr : 1 < r) (h : g % r = 1) (k : Nat) : g ^ k % r = 1 := by
  rw [Nat.pow_mod, h, Nat.one_pow, Nat.mod_eq_of_lt hr]
theorem pow_gcd {r g : Nat} (hr : 1 < r) : ∀ (m k : Nat), g ^ m % r = 1 → g ^ k % r = 1 → g ^ (Nat.gcd m k) % r = 1 := by
  intro m k
  induction m, k using Nat.gcd.induction with
  | H0 n => intro _ h; rwa [Nat.gcd_zero_left]
  | H1 m n hm ih =>
    intro h1 h2
    rw [Nat.gcd_rec]
    refine ih ?_ h1
    have e : g ^ n = (g ^ m) ^ (n / m) * g ^ (n % m) := by rw [← Nat.pow_mul, ← Nat.pow_add, Nat.div_add_mod]
    rw [e, Nat.mul_mod, pow_one_mod hr h1, Nat.one_mul, Nat.mod_mod] at h2
    exact h2
def pw (n : Nat) : Nat → Nat → Nat → Nat
  | 0, _, _ => 1 % n
  | f + 1, a, e => bif Nat.beq e 0 then 1 % n else bif Nat.beq (e % 2) 1 then a * pw n f (a * a % n) (e / 2) % n else pw n f (a * a % n) (e / 2)
theorem pw_eq (n : Nat) : ∀ (f a e : Nat), e < 2 ^ f → pw n f a e = a ^ e % n
  | 0, a, e, h => by have : e = 0 := by simpa using h
                     subst this; rfl
  | f + 1, a, e, h => by
    unfold pw
    have hlt : e / 2 < 2 ^ f := by rw [Nat.pow_succ] at h; omega
    have ih := pw_eq n f (a * a % n) (e / 2) hlt
    have e1 : (a * a % n) ^ (e / 2) % n = a ^ (2 * (e / 2)) % n := by rw [← Nat.pow_mod, ← Nat.pow_two, ← Nat.pow_mul]
    by_cases h0 : e = 0
    · subst h0; rfl
    · have hb : Nat.beq e 0 = false := by cases hc : Nat.beq e 0 with
        | false => rfl
        | true => exact absurd (Nat.eq_of_beq_eq_true hc) h0
      rw [hb, cond_false, ih, e1]
      by_cases h1 : e % 2 = 1
      · have hb1 : Nat.beq (e % 2) 1 = true := by rw [h1]; rfl
        rw [hb1, cond_true, Nat.mul_mod, Nat.mod_mod, ← Nat.mul_mod]
        have : e = 2 * (e / 2) + 1 := by omega
        conv => rhs; rw [this, Nat.pow_succ, Nat.mul_comm]
      · have hb1 : Nat.beq (e % 2) 1 = false := by
          cases hc : Nat.beq (e % 2) 1 with
          | false => rfl
          | true => exact absurd (Nat.eq_of_beq_eq_true hc) h1
        rw [hb1, cond_false]
        have : 2 * (e / 2) = e := by omega
        rw [this]

/-! Primes -/
theorem has_prime : ∀ (n : Nat), 1 < n → ∃ r, Pr r ∧ r ∣ n := by
  intro n
  induction n using Nat.strongRecOn with
  | _ n ih =>
    intro h
    by_cases hp : Pr n
    · exact ⟨n, hp, Nat.dvd_refl n⟩
    · have : ∃ m, m ∣ n ∧ m ≠ 1 ∧ m ≠ n := by
        apply Classical.byContradiction
        intro hn
        refine hp ⟨h, fun m hm => ?_⟩
        apply Classical.byContradiction
        intro hc
        exact hn ⟨m, hm, fun e => hc (.inl e), fun e => hc (.inr e)⟩
      obtain ⟨m, hm, h1, h2⟩ := this
      have hle := Nat.le_of_dvd (by omega) hm
      have h0 : m ≠ 0 := fun e => by subst e; have := Nat.eq_zero_of_zero_dvd hm; omega
      obtain ⟨r, hr, hd⟩ := ih m (by omega) (by omega)
      exact ⟨r, hr, Nat.dvd_trans hd hm⟩
theorem small_prime {n : Nat} (h : 1 < n) (hn : ¬ Pr n) : ∃ r, Pr r ∧ r ∣ n ∧ r * r ≤ n := by
  have : ∃ m, m ∣ n ∧ m ≠ 1 ∧ m ≠ n := by
    apply Classical.byContradiction
    intro hc
    refine hn ⟨h, fun m hm => ?_⟩
    apply Classical.byContradiction
    intro hd
    exact hc ⟨m, hm, fun e => hd (.inl e), fun e => hd (.inr e)⟩
  obtain ⟨m, ⟨k, hk⟩, h1, h2⟩ := this
  have hm0 : m ≠ 0 := fun e => by subst e; omega
  have hk0 : k ≠ 0 := fun e => by subst e; omega
  have hk1 : k ≠ 1 := fun e => by subst e; omega
  rcases Nat.le_total m k with hmk | hmk
  · obtain ⟨r, hr, hd⟩ := has_prime m (by omega)
    have hle := Nat.le_of_dvd (by omega) hd
    refine ⟨r, hr, Nat.dvd_trans hd ⟨k, hk⟩, ?_⟩
    rw [hk]; exact Nat.mul_le_mul hle (Nat.le_trans hle hmk)
  · obtain ⟨r, hr, hd⟩ := has_prime k (by omega)
    have hle := Nat.le_of_dvd (by omega) hd
    refine ⟨r, hr, Nat.dvd_trans hd ⟨m, by rw [hk, Nat.mul_comm]⟩, ?_⟩
    rw [hk]; exact Nat.mul_le_mul (Nat.le_trans hle hmk) hle
/-- One prime q of n - 1, and who tells it. -/
def tells (n q a : Nat) : Bool := Nat.beq (q * ((n - 1) / q)) (n - 1) && Nat.beq (pw n 256 a (n - 1)) 1 && Nat.beq (Nat.gcd (pw n 256 a ((n - 1) / q) + (n - 1)) n) 1
theorem tells_dvd {n q a r : Nat} (hn : 1 < n) (hb : n < 2 ^ 256) (hq : Pr q) (ht : tells n q a = true) (hr : Pr r) (hd : r ∣ n) : q ∣ r - 1 := by
  simp only [tells, Bool.and_eq_true] at ht
  obtain ⟨⟨t1, t2⟩, t3⟩ := ht
  have t1 := Nat.eq_of_beq_eq_true t1
  have t2 := Nat.eq_of_beq_eq_true t2
  have t3 := Nat.eq_of_beq_eq_true t3
  have hr1 := hr.1
  rw [pw_eq n 256 a (n - 1) (by omega)] at t2
  rw [pw_eq n 256 a ((n - 1) / q) (Nat.lt_of_le_of_lt (Nat.div_le_self _ _) (by omega))] at t3
  have ha1 : a ^ (n - 1) % r = 1 := by
    rw [← Nat.mod_mod_of_dvd _ hd, t2, Nat.mod_eq_of_lt hr1]
  have hra : ¬ r ∣ a := by
    intro h
    obtain ⟨k, hk⟩ := h
    obtain ⟨m, hm⟩ : ∃ m, n - 1 = m + 1 := ⟨n - 2, by omega⟩
    rw [hm, Nat.pow_succ, hk, ← Nat.mul_assoc, Nat.mul_comm _ r, Nat.mul_assoc, Nat.mul_mod_right] at ha1
    omega
  have hf := hr.fermat1 hra
  rcases hq.2 (Nat.gcd q (r - 1)) (Nat.gcd_dvd_left _ _) with h1 | h1
  · exfalso
    have g1 : (a ^ ((n - 1) / q)) ^ q % r = 1 := by rw [← Nat.pow_mul, Nat.mul_comm, t1]; exact ha1
    have g2 : (a ^ ((n - 1) / q)) ^ (r - 1) % r = 1 := by rw [← Nat.pow_mul, Nat.mul_comm, Nat.pow_mul]; exact pow_one_mod hr1 hf _
    have g3 := pow_gcd hr1 q (r - 1) g1 g2
    rw [h1, Nat.pow_one] at g3
    have g4 : r ∣ a ^ ((n - 1) / q) % n + (n - 1) := by
      have e1 : (a ^ ((n - 1) / q) % n) % r = 1 := by rw [Nat.mod_mod_of_dvd _ hd]; exact g3
      obtain ⟨k, hk⟩ := hd
      have hk0 : k ≠ 0 := fun e => by subst e; omega
      have e2 : a ^ ((n - 1) / q) % n = 1 + r * ((a ^ ((n - 1) / q) % n) / r) := by
        have := Nat.mod_add_div (a ^ ((n - 1) / q) % n) r
        omega
      rw [e2]
      have hpos : 0 < r * k := by rw [← hk]; omega
      exact ⟨(a ^ ((n - 1) / q) % n) / r + k, by rw [Nat.mul_add]; omega⟩
    have g5 := Nat.dvd_gcd g4 hd
    rw [t3] at g5
    have := Nat.le_of_dvd (by decide) g5
    omega
  · rw [← h1]; exact Nat.gcd_dvd_right _ _
theorem prime1 {n q a : Nat} (hn : 1 < n) (hb : n < 2 ^ 256) (hq : Pr q) (ht : tells n q a = true) (hs : n < q * q) : Pr n := by
  apply Classical.byContradiction
  intro hc
  obtain ⟨r, hr, hd, hle⟩ := small_prime hn hc
  have h1 := tells_dvd hn hb hq ht hr hd
  have h2 := Nat.le_of_dvd (by have := hr.1; omega) h1
  have : q * q ≤ r * r := Nat.mul_le_mul (by omega) (by omega)
  omega
theorem prime2 {n q a q' a' : Nat} (hn : 1 < n) (hb : n < 2 ^ 256) (hq : Pr q) (ht : tells n q a = true) (hq' : Pr q') (ht' : tells n q' a' = true) (hne : q' < q) (hs : n < (q * q') * (q * q')) : Pr n := by
  apply Classical.byContradiction
  intro hc
  obtain ⟨r, hr, hd, hle⟩ := small_prime hn hc
  have h1 := tells_dvd hn hb hq ht hr hd
  have h1' := tells_dvd hn hb hq' ht' hr hd
  have hco : Nat.Coprime q q' := hq.coprime (fun h => by
    have := Nat.le_of_dvd (by have := hq'.1; omega) h
    omega)
  have h3 : q * q' ∣ r - 1 := hco.mul_dvd_of_dvd_of_dvd h1 h1'
  have h2 := Nat.le_of_dvd (by have := hr.1; omega) h3
  have : (q * q') * (q * q') ≤ r * r := Nat.mul_le_mul (by omega) (by omega)
  omega
/-- No number from k on, k + f at most, divides n. -/
def noneDiv (n : Nat) : Nat → Nat → Bool
  | 0, _ => true
  | f + 1, k => !Nat.beq (n % k) 0 && noneDiv n f (k + 1)
theorem noneDiv_mod {n : Nat} : ∀ (f k m : Nat), noneDiv n f k = true → k ≤ m → m < k + f → n % m ≠ 0
  | 0, k, m, _, h1, h2 => by omega
  | f + 1, k, m, h, h1, h2 => by
    simp only [noneDiv, Bool.and_eq_true, Bool.not_eq_true'] at h
    by_cases hm : m = k
    · subst hm
      intro e
      rw [e] at h
      exact absurd h.1 (by decide)
    · exact noneDiv_mod f (k + 1) m h.2 (by omega) (by omega)
theorem prime0 {n : Nat} (f : Nat) (hn : 1 < n) (h : noneDiv n f 2 = true) (hs : n < (f + 2) * (f + 2)) : Pr n := by
  apply Classical.byContradiction
  intro hc
  obtain ⟨r, hr, hd, hle⟩ := small_prime hn hc
  have hr1 := hr.1
  rcases Nat.lt_or_ge r (2 + f) with h1 | h1
  · exact noneDiv_mod f 2 r h (by omega) h1 (Nat.mod_eq_zero_of_dvd hd)
  · have : (f + 2) * (f + 2) ≤ r * r := Nat.mul_le_mul (by omega) (by omega)
    omega
set_option maxRecDepth 100000
theorem pr8574133 : Pr 8574133 := prime0 2928 (by decide) (by decide +kernel) (by decide)
theorem pr127 : Pr 127 := prime0 10 (by decide) (by decide +kernel) (by decide)
theorem pr430751 : Pr 430751 := prime0 656 (by decide) (by decide +kernel) (by decide)
theorem pr4153 : Pr 4153 := prime0 64 (by decide) (by decide +kernel) (by decide)
theorem pr991 : Pr 991 := prime0 31 (by decide) (by decide +kernel) (by decide)
theorem pr2773320623 : Pr 2773320623 := prime0 52662 (by decide) (by decide +kernel) (by decide)
theorem pr72106336199 : Pr 72106336199 := prime1 (q := 2773320623) (a := 2) (by decide) (by decide) pr2773320623 (by decide +kernel) (by decide)
theorem pr1919519569386763 : Pr 1919519569386763 := prime2 (q := 8574133) (a := 2) (q' := 127) (a' := 2) (by decide) (by decide) pr8574133 (by decide +kernel) pr127 (by decide +kernel) (by decide) (by decide)
theorem pr31757755568855353 : Pr 31757755568855353 := prime2 (q := 430751) (a := 2) (q' := 4153) (a' := 2) (by decide) (by decide) pr430751 (by decide +kernel) pr4153 (by decide +kernel) (by decide) (by decide)
theorem prB : Pr 75445702479781427272750846543864801 := prime2 (q := 1919519569386763) (a := 2) (q' := 72106336199) (a' := 2) (by decide) (by decide) pr1919519569386763 (by decide +kernel) pr72106336199 (by decide +kernel) (by decide) (by decide)
theorem prA : Pr 74058212732561358302231226437062788676166966415465897661863160754340907 := prime2 (q := 75445702479781427272750846543864801) (a := 2) (q' := 31757755568855353) (a' := 2) (by decide) (by decide) prB (by decide +kernel) pr31757755568855353 (by decide +kernel) (by decide) (by decide)
/-- 2^255 - 19 -/
theorem prP : Pr 57896044618658097711785492504343953926634992332820282019728792003956564819949 := prime1 (q := 74058212732561358302231226437062788676166966415465897661863160754340907) (a := 2) (by decide) (by decide) prA (by decide +kernel) (by decide)
end Go.Nt
