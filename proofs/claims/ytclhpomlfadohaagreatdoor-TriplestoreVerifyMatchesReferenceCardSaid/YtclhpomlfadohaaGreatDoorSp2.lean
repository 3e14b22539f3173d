/- Plain facts on the primes 2^q - 1 and on words of 64 bits. No Go in it. -/
set_option linter.unusedVariables false
namespace Sp
/-- The supported primes. -/
def Sup (p : Nat) : Prop := p = 31 ∨ p = 127 ∨ p = 8191 ∨ p = 131071 ∨ p = 524287 ∨ p = 2147483647 ∨ p = 2305843009213693951
def qOf (p : Nat) : Nat := if p = 31 then 5 else if p = 127 then 7 else if p = 8191 then 13 else if p = 131071 then 17 else if p = 524287 then 19 else if p = 2147483647 then 31 else 61
theorem Sup.q {p : Nat} (h : Sup p) : p = 2 ^ qOf p - 1 ∧ 5 ≤ qOf p ∧ qOf p ≤ 61 := by
  rcases h with rfl | rfl | rfl | rfl | rfl | rfl | rfl <;> decide
theorem Sup.lt {p : Nat} (h : Sup p) : 31 ≤ p ∧ p ≤ 2305843009213693951 := by
  rcases h with rfl | rfl | rfl | rfl | rfl | rfl | rfl <;> decide

theorem or_add {a b i : Nat} (h : b < 2 ^ i) : 2 ^ i * a ||| b = 2 ^ i * a + b := (Nat.two_pow_add_eq_or_of_lt h a).symm

theorem w64 {q : Nat} (hq : q ≤ 64) : 18446744073709551616 = 2 ^ (64 - q) * 2 ^ q := by
  rw [← Nat.pow_add, show 64 - q + q = 64 by omega]
/-- hi << (64 - q) -/
theorem shl_hi {hi q : Nat} (hq : q ≤ 64) : hi * 2 ^ (64 - q) % 18446744073709551616 = 2 ^ (64 - q) * (hi % 2 ^ q) := by
  have e : 18446744073709551616 = 2 ^ (64 - q) * 2 ^ q := by rw [← Nat.pow_add, show 64 - q + q = 64 by omega]
  rw [e, Nat.mul_comm hi, Nat.mul_mod_mul_left]
theorem lo_div_lt {lo q : Nat} (hlo : lo < 18446744073709551616) (hq : q ≤ 64) : lo / 2 ^ q < 2 ^ (64 - q) := by
  rw [Nat.div_lt_iff_lt_mul (Nat.two_pow_pos q), ← Nat.pow_add, show 64 - q + q = 64 by omega]; exact hlo
/-- the low word of n >> q -/
theorem or_lo {hi lo q : Nat} (hlo : lo < 18446744073709551616) (hq : q ≤ 64) : lo / 2 ^ q ||| hi * 2 ^ (64 - q) % 18446744073709551616 = lo / 2 ^ q + 2 ^ (64 - q) * (hi % 2 ^ q) := by
  rw [shl_hi hq, Nat.or_comm, or_add (lo_div_lt hlo hq), Nat.add_comm]

/-- One round: the bits above q are added to those below. -/
theorem fold_sumW {W A B hi lo : Nat} (hB : 0 < B) (w : W = A * B) : hi / B * W + (lo / B + A * (hi % B)) + lo % B = (hi * W + lo) / B + (hi * W + lo) % B := by
  have hs : hi * W = B * (A * hi) := by rw [w, Nat.mul_comm, Nat.mul_comm A B, Nat.mul_assoc]
  have e1 : (B * (A * hi) + lo) / B = A * hi + lo / B := Nat.mul_add_div hB ..
  have e2 : (B * (A * hi) + lo) % B = lo % B := Nat.mul_add_mod ..
  rw [hs, e1, e2]
  have h3 : A * hi = hi / B * W + A * (hi % B) := by
    have t : hi = B * (hi / B) + hi % B := (Nat.div_add_mod ..).symm
    have h64 : A * (B * (hi / B)) = hi / B * W := by
      rw [← Nat.mul_assoc, ← w, Nat.mul_comm]
    rw [← h64, ← Nat.mul_add, ← t]
  generalize hi / B * W = X at *
  generalize A * (hi % B) = Y at *
  rw [h3]
  omega
theorem fold_sum {hi lo q : Nat} (hq : q ≤ 64) : hi / 2 ^ q * 18446744073709551616 + (lo / 2 ^ q + 2 ^ (64 - q) * (hi % 2 ^ q)) + lo % 2 ^ q = (hi * 18446744073709551616 + lo) / 2 ^ q + (hi * 18446744073709551616 + lo) % 2 ^ q :=
  fold_sumW (Nat.two_pow_pos q) (w64 hq)
theorem fold_mod {n q : Nat} (hq : 1 ≤ q) : (n / 2 ^ q + n % 2 ^ q) % (2 ^ q - 1) = n % (2 ^ q - 1) := by
  have h2 : 2 ≤ 2 ^ q := by
    have := Nat.pow_le_pow_right (show 0 < 2 by decide) hq
    simpa using this
  have e : n = (2 ^ q - 1) * (n / 2 ^ q) + (n / 2 ^ q + n % 2 ^ q) := by
    have h := (Nat.div_add_mod n (2 ^ q)).symm
    have : (2 ^ q - 1) * (n / 2 ^ q) + n / 2 ^ q = 2 ^ q * (n / 2 ^ q) := by
      rw [Nat.sub_mul, Nat.one_mul]
      have : n / 2 ^ q ≤ 2 ^ q * (n / 2 ^ q) := Nat.le_mul_of_pos_left _ (by omega)
      omega
    omega
  conv => rhs; rw [e]
  rw [Nat.mul_add_mod]
/-- products of words -/
theorem mul32 {a b : Nat} (ha : a < 4294967296) (hb : b < 4294967296) : a * b ≤ 18446744065119617025 := by
  have := Nat.mul_le_mul (show a ≤ 4294967295 by omega) (show b ≤ 4294967295 by omega)
  omega
theorem mul64 (x y : Nat) :
    let x0 := x % 4294967296; let x1 := x / 4294967296; let y0 := y % 4294967296; let y1 := y / 4294967296
    let t := x1 * y0 + x0 * y0 / 4294967296
    let w1 := t % 4294967296 + x0 * y1
    x1 * y1 + t / 4294967296 + w1 / 4294967296 = x * y / 18446744073709551616 := by
  intro x0 x1 y0 y1 t w1
  have ex : x = 4294967296 * x1 + x0 := (Nat.div_add_mod ..).symm
  have ey : y = 4294967296 * y1 + y0 := (Nat.div_add_mod ..).symm
  have e : x * y = 18446744073709551616 * (x1 * y1) + 4294967296 * (x1 * y0) + 4294967296 * (x0 * y1) + x0 * y0 := by
    rw [ex, ey, Nat.add_mul, Nat.mul_add, Nat.mul_add]
    have a1 : 4294967296 * x1 * (4294967296 * y1) = 18446744073709551616 * (x1 * y1) := by
      rw [Nat.mul_mul_mul_comm]
    have a2 : 4294967296 * x1 * y0 = 4294967296 * (x1 * y0) := Nat.mul_assoc ..
    have a3 : x0 * (4294967296 * y1) = 4294967296 * (x0 * y1) := Nat.mul_left_comm ..
    rw [a1, a2, a3]
    have a4 : (4294967296 * x1 + x0) % 4294967296 = x0 := by rw [← ex]
    omega
  rw [e]
  have p00 := Nat.div_add_mod (x0 * y0) 4294967296
  have l00 := Nat.mod_lt (x0 * y0) (show 0 < 4294967296 by decide)
  have pt := Nat.div_add_mod t 4294967296
  have lt := Nat.mod_lt t (show 0 < 4294967296 by decide)
  have pw := Nat.div_add_mod w1 4294967296
  have lw := Nat.mod_lt w1 (show 0 < 4294967296 by decide)
  have et : t = x1 * y0 + x0 * y0 / 4294967296 := rfl
  have ew : w1 = t % 4294967296 + x0 * y1 := rfl
  generalize x1 * y1 = A at *
  generalize x1 * y0 = B at *
  generalize x0 * y1 = C at *
  generalize x0 * y0 = D at *
  omega

/- one round of the reduction -/
def fl (p h l : Nat) : Nat := l / 2 ^ qOf p + 2 ^ (64 - qOf p) * (h % 2 ^ qOf p)
def fm (p l : Nat) : Nat := l % 2 ^ qOf p
def fh (p h : Nat) : Nat := h / 2 ^ qOf p
def nl (p h l : Nat) : Nat := (fl p h l + fm p l) % 18446744073709551616
def nc (p h l : Nat) : Nat := (fl p h l + fm p l) / 18446744073709551616
def nh (p h l : Nat) : Nat := fh p h + nc p h l
theorem fl_lt {p h l : Nat} (hp : Sup p) (hl : l < 18446744073709551616) : fl p h l < 18446744073709551616 := by
  have hq := hp.q
  have h1 : l / 2 ^ qOf p < 2 ^ (64 - qOf p) := lo_div_lt hl (by omega)
  have h2 : h % 2 ^ qOf p < 2 ^ qOf p := Nat.mod_lt _ (Nat.two_pow_pos _)
  have h3 : 2 ^ (64 - qOf p) * (h % 2 ^ qOf p + 1) ≤ 2 ^ (64 - qOf p) * 2 ^ qOf p := Nat.mul_le_mul_left _ h2
  have w := w64 (q := qOf p) (by omega)
  rw [← w, Nat.mul_add, Nat.mul_one] at h3
  unfold fl; omega
theorem fm_lt {p l : Nat} (hl : l < 18446744073709551616) : fm p l < 18446744073709551616 := Nat.lt_of_le_of_lt (Nat.mod_le ..) hl
theorem nl_lt {p h l : Nat} : nl p h l < 18446744073709551616 := Nat.mod_lt _ (by decide)
theorem fh_le {p h : Nat} (hp : Sup p) : fh p h ≤ h / 32 := by
  have h1 : 2 ^ 5 ≤ 2 ^ qOf p := Nat.pow_le_pow_right (by decide) hp.q.2.1
  exact Nat.div_le_div_left h1 (by decide)
theorem nh_lt {p h l : Nat} (hp : Sup p) (hh : h < 18446744073709551616) (hl : l < 18446744073709551616) : nh p h l < 18446744073709551616 := by
  have h1 := fh_le (h := h) hp
  have h2 := fl_lt (h := h) hp hl
  have h3 := fm_lt (p := p) hl
  have : nc p h l ≤ 1 := by unfold nc; omega
  unfold nh; omega
theorem fold_nxt {p h l : Nat} (hp : Sup p) : nh p h l * 18446744073709551616 + nl p h l = (h * 18446744073709551616 + l) / 2 ^ qOf p + (h * 18446744073709551616 + l) % 2 ^ qOf p := by
  have hq := hp.q
  rw [← fold_sum (hi := h) (lo := l) (q := qOf p) (by omega)]
  have h1 := Nat.div_add_mod (fl p h l + fm p l) 18446744073709551616
  unfold nh nl
  change _ = fh p h * 18446744073709551616 + fl p h l + fm p l
  unfold nc
  omega
theorem fold_inv {p h l n : Nat} (hp : Sup p) (e : (h * 18446744073709551616 + l) % p = n % p) : (nh p h l * 18446744073709551616 + nl p h l) % p = n % p := by
  have hq := hp.q
  rw [fold_nxt hp]
  have := fold_mod (n := h * 18446744073709551616 + l) (q := qOf p) (by omega)
  rw [← hq.1] at this
  rw [this, e]
theorem or_fl {p h l : Nat} (hp : Sup p) (hl : l < 18446744073709551616) : l / 2 ^ qOf p ||| h * 2 ^ (64 - qOf p) % 18446744073709551616 = fl p h l := or_lo hl (by have := hp.q; omega)

def add (p a b : Nat) : Nat := (a + b) % 18446744073709551616 % p
def mul (p a b : Nat) : Nat := a * b % p
def neg (p a : Nat) : Nat := if a = 0 then 0 else (p + (18446744073709551616 - a)) % 18446744073709551616
def pow (p a n : Nat) : Nat := a ^ n % p
def inv (p a : Nat) : Nat := if a = 0 then 0 else pow p a (p - 2)
theorem Sup.pos {p : Nat} (h : Sup p) : 0 < p := by have := h.lt; omega
theorem pow_lt {p a b : Nat} (h : Sup p) : pow p a b < p := Nat.mod_lt _ h.pos
/-- repeated squaring -/
theorem pow_odd {p o a n z : Nat} (e : o * a ^ n % p = z) (h : n % 2 = 1) : mul p o a * mul p a a ^ (n / 2) % p = z := by
  have : n = 2 * (n / 2) + 1 := by omega
  rw [← e]
  conv => rhs; rw [this]
  rw [Nat.pow_succ, Nat.pow_mul]
  unfold mul
  rw [Nat.mul_mod, Nat.mod_mod, Nat.pow_mod, Nat.mod_mod, ← Nat.pow_mod, ← Nat.mul_mod, Nat.pow_two, Nat.mul_assoc, Nat.mul_comm a]
theorem pow_even {p o a n z : Nat} (e : o * a ^ n % p = z) (h : n % 2 = 0) : o * mul p a a ^ (n / 2) % p = z := by
  have : n = 2 * (n / 2) := by omega
  rw [← e]
  conv => rhs; rw [this]
  rw [Nat.pow_mul]
  unfold mul
  rw [Nat.mul_mod, Nat.pow_mod, Nat.mod_mod, ← Nat.pow_mod, ← Nat.mul_mod, Nat.pow_two]
def sub (p a b : Nat) : Nat := add p a (neg p b)
end Sp
namespace Sp
theorem mul_hi {x y : Nat} (hx : x < 18446744073709551616) (hy : y < 18446744073709551616) : x * y / 18446744073709551616 < 18446744073709551616 := by
  have := Nat.mul_le_mul (show x ≤ 18446744073709551615 by omega) (show y ≤ 18446744073709551615 by omega)
  omega
end Sp
