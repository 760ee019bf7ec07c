/- Numbers, texts and lists in bytes: forms as tokens, and their readers: plain lists, no program. -/
import Init
namespace Go.Proofs.Ythefbeekcjchcaa.P
set_option linter.unusedVariables false
set_option linter.unusedSimpArgs false
/-- A number's bytes, seven bits each, the lowest first. -/
def enc (n : Nat) : List Int := if n < 128 then [(n : Int)] else ((n % 128 + 128 : Nat) : Int) :: enc (n / 128)
termination_by n
decreasing_by omega
theorem enc_small {n : Nat} (h : n < 128) : enc n = [(n : Int)] := by rw [enc, if_pos h]
theorem enc_big {n : Nat} (h : ¬ n < 128) : enc n = ((n % 128 + 128 : Nat) : Int) :: enc (n / 128) := by rw [enc, if_neg h]
theorem enc_len (k : Nat) : ∀ n : Nat, n < 128 ^ (k + 1) → (enc n).length ≤ k + 1 := by
  induction k with
  | zero => intro n h; rw [enc_small (by simpa using h)]; simp
  | succ k ih =>
    intro n h
    by_cases c : n < 128
    · rw [enc_small c]; simp
    · rw [enc_big c]
      have := ih (n / 128) (by rw [Nat.pow_succ] at h; omega)
      simp
      omega
theorem enc_pos (n : Nat) : 1 ≤ (enc n).length := by
  by_cases c : n < 128
  · rw [enc_small c]; simp
  · rw [enc_big c]; simp
def fits (n : Int) : Bool := decide (0 ≤ n) && decide (n ≤ 1099511627776)
theorem enc_fit {n : Int} (h : fits n = true) : (enc n.toNat).length ≤ 6 := by
  simp only [fits, Bool.and_eq_true, decide_eq_true_eq] at h
  exact enc_len 5 n.toNat (by rw [show (128 : Nat) ^ (5 + 1) = 4398046511104 by decide]; omega)
/-- One number, read from the k-th byte on: the number, what is left, the error. -/
def dn (k : Nat) (n : Int) : List Int → Int × List Int × Int
  | [] => (0, [], 13)
  | c :: bs => if c < 128 ∧ (n + c % 128 * 128 ^ k > 1099511627776 ∨ k > 0 ∧ c = 0) ∨ c ≥ 128 ∧ k = 5 then (0, bs, 12) else if c < 128 then (n + c % 128 * 128 ^ k, bs, 0) else dn (k + 1) (n + c % 128 * 128 ^ k) bs
def dnum (bs : List Int) (e : Int) : Int × List Int × Int := if e = 0 then dn 0 0 bs else (0, bs, e)
def Bytes (bs : List Int) : Prop := ∀ x ∈ bs, 0 ≤ x ∧ x < 256
theorem bytes_right {a b : List Int} (h : Bytes (a ++ b)) : Bytes b := fun x hx => h x (List.mem_append_right _ hx)
theorem bytes_left {a b : List Int} (h : Bytes (a ++ b)) : Bytes a := fun x hx => h x (List.mem_append_left _ hx)
/-! What is written is read back. -/
theorem dn_enc (q : Nat) : ∀ (k : Nat) (n : Int) (rest : List Int), 0 ≤ n → n + (q : Int) * 128 ^ k ≤ 1099511627776 → (k > 0 → q > 0) → k ≤ 5 → dn k n (enc q ++ rest) = (n + (q : Int) * 128 ^ k, rest, 0) := by
  induction q using Nat.strongRecOn with
  | _ q ih =>
    intro k n rest hn hq hk h5
    by_cases c : q < 128
    · rw [enc_small c, List.singleton_append, dn]
      have e : ((q : Int) % 128) = q := by omega
      rw [e, if_neg (by omega), if_pos (by omega)]
    · have hk5 : k ≠ 5 := by
        rintro rfl
        have : (128 : Int) ^ 5 = 34359738368 := by decide
        rw [this] at hq
        omega
      rw [enc_big c, List.cons_append, dn]
      have hp : (0 : Int) ≤ 128 ^ k := Int.pow_nonneg (by omega)
      have e : (((q % 128 + 128 : Nat) : Int) % 128) = ((q % 128 : Nat) : Int) := by omega
      have e2 : ((q : Int)) * 128 ^ k = ((q % 128 : Nat) : Int) * 128 ^ k + ((q / 128 : Nat) : Int) * 128 ^ (k + 1) := by
        rw [Int.pow_succ, show ((q / 128 : Nat) : Int) * ((128 : Int) ^ k * 128) = ((q / 128 : Nat) : Int) * 128 * 128 ^ k by rw [Int.mul_assoc, Int.mul_comm 128, ← Int.mul_assoc], ← Int.add_mul]
        congr 1
        omega
      have h0 : 0 ≤ ((q % 128 : Nat) : Int) * 128 ^ k := Int.mul_nonneg (by omega) hp
      rw [e, if_neg (by omega), if_neg (by omega), ih (q / 128) (by omega) (k + 1) _ rest (by omega) (by rw [e2] at hq; omega) (by omega) (by omega), e2]
      congr 1
      omega
theorem dn_cut (q : Nat) : ∀ (k j : Nat) (n : Int), 0 ≤ n → n + (q : Int) * 128 ^ k ≤ 1099511627776 → k ≤ 5 → j < (enc q).length → dn k n ((enc q).take j) = (0, [], 13) := by
  induction q using Nat.strongRecOn with
  | _ q ih =>
    intro k j n hn hq h5 hj
    match j with
    | 0 => rw [List.take_zero, dn]
    | j + 1 =>
      by_cases c : q < 128
      · rw [enc_small c] at hj
        simp at hj
      · have hk5 : k ≠ 5 := by
          rintro rfl
          have : (128 : Int) ^ 5 = 34359738368 := by decide
          rw [this] at hq
          omega
        rw [enc_big c] at hj ⊢
        rw [List.take_succ_cons, dn]
        have hp : (0 : Int) ≤ 128 ^ k := Int.pow_nonneg (by omega)
        have e : (((q % 128 + 128 : Nat) : Int) % 128) = ((q % 128 : Nat) : Int) := by omega
        have e2 : ((q : Int)) * 128 ^ k = ((q % 128 : Nat) : Int) * 128 ^ k + ((q / 128 : Nat) : Int) * 128 ^ (k + 1) := by
          rw [Int.pow_succ, show ((q / 128 : Nat) : Int) * ((128 : Int) ^ k * 128) = ((q / 128 : Nat) : Int) * 128 * 128 ^ k by rw [Int.mul_assoc, Int.mul_comm 128, ← Int.mul_assoc], ← Int.add_mul]
          congr 1
          omega
        have h0 : 0 ≤ ((q % 128 : Nat) : Int) * 128 ^ k := Int.mul_nonneg (by omega) hp
        rw [e, if_neg (by omega), if_neg (by omega)]
        exact ih (q / 128) (by omega) (k + 1) j _ (by omega) (by rw [e2] at hq; omega) (by omega) (by simpa using hj)
theorem dn_inv : ∀ (bs : List Int) (k : Nat) (n m : Int) (rest : List Int), Bytes bs → dn k n bs = (m, rest, 0) → ∃ q : Nat, m = n + (q : Int) * 128 ^ k ∧ bs = enc q ++ rest ∧ (k > 0 → q > 0) ∧ m ≤ 1099511627776
  | [], k, n, m, rest, _, h => by rw [dn] at h; simp at h
  | c :: bs, k, n, m, rest, hb, h => by
    have hc := hb c (List.mem_cons_self ..)
    have ht : Bytes bs := fun x hx => hb x (List.mem_cons_of_mem _ hx)
    rw [dn] at h
    split at h
    · simp at h
    · rename_i h1
      split at h
      · rename_i h2
        simp only [Prod.mk.injEq] at h
        obtain ⟨rfl, rfl, _⟩ := h
        have e : c % 128 = c := by omega
        rw [e] at h1 ⊢
        refine ⟨c.toNat, by rw [show ((c.toNat : Nat) : Int) = c by omega], ?_, by omega, by omega⟩
        rw [enc_small (by omega)]
        simp
        omega
      · rename_i h2
        obtain ⟨q, h3, h4, h5, h6⟩ := dn_inv bs (k + 1) _ m rest ht h
        have hq := h5 (by omega)
        refine ⟨(c % 128).toNat + 128 * q, ?_, ?_, by omega, h6⟩
        · rw [h3, show (((c % 128).toNat + 128 * q : Nat) : Int) = c % 128 + (q : Int) * 128 by omega, Int.add_mul, Int.pow_succ, Int.mul_assoc (q : Int) 128, Int.mul_comm 128]
          omega
        · rw [enc_big (by omega), h4, show ((c % 128).toNat + 128 * q) / 128 = q by omega, show ((((c % 128).toNat + 128 * q) % 128 + 128 : Nat) : Int) = c by omega]
          rfl
theorem dn_bytes : ∀ (bs : List Int) (k : Nat) (n : Int), Bytes bs → ∃ j : Nat, j ≤ bs.length ∧ (dn k n bs).2.1 = bs.drop j
  | [], k, n, _ => ⟨0, by simp, by rw [dn]; rfl⟩
  | c :: xs, k, n, h => by
    rw [dn]
    split
    · exact ⟨1, by simp, rfl⟩
    · split
      · exact ⟨1, by simp, rfl⟩
      · obtain ⟨j, h1, h2⟩ := dn_bytes xs (k + 1) (n + c % 128 * 128 ^ k) (fun x hx => h x (List.mem_cons_of_mem _ hx))
        exact ⟨j + 1, by simp; omega, by rw [h2]; rfl⟩
theorem dn_err : ∀ (bs : List Int) (k : Nat) (n : Int), (dn k n bs).2.2 = 0 ∨ (dn k n bs).2.2 = 12 ∨ (dn k n bs).2.2 = 13
  | [], k, n => by rw [dn]; simp
  | c :: xs, k, n => by
    rw [dn]
    split
    · simp
    · split
      · simp
      · exact dn_err xs _ _
/-! Tokens: what a form is made of. -/
inductive Tok where
  | num (n : Int)
  | raw (l : List Int)
  | bad
def Tok.out : Tok → List Int
  | .num n => if fits n = true then enc n.toNat else []
  | .raw l => l
  | .bad => []
def Tok.ok : Tok → Bool
  | .num n => fits n
  | .raw _ => true
  | .bad => false
def Tok.cost : Tok → Nat
  | .num _ => 6
  | .raw l => l.length
  | .bad => 0
def outT (ts : List Tok) : List Int := ts.flatMap Tok.out
def okT (ts : List Tok) : Bool := ts.all Tok.ok
def costT (ts : List Tok) : Nat := (ts.map Tok.cost).sum
theorem outT_app (a b : List Tok) : outT (a ++ b) = outT a ++ outT b := by simp [outT]
theorem okT_app (a b : List Tok) : okT (a ++ b) = (okT a && okT b) := by simp [okT]
theorem costT_app (a b : List Tok) : costT (a ++ b) = costT a + costT b := by simp [costT]
theorem outT_nil : outT [] = [] := rfl
theorem okT_nil : okT [] = true := rfl
theorem costT_nil : costT [] = 0 := rfl
theorem costT_num (n : Int) (ts : List Tok) : costT (.num n :: ts) = 6 + costT ts := by simp [costT, Tok.cost]
theorem costT_raw (l : List Int) (ts : List Tok) : costT (.raw l :: ts) = l.length + costT ts := by simp [costT, Tok.cost]
theorem costT_bad (ts : List Tok) : costT (.bad :: ts) = costT ts := by simp [costT, Tok.cost]
theorem out_cost (t : Tok) : t.out.length ≤ t.cost := by
  cases t with
  | num n =>
    simp only [Tok.out, Tok.cost]
    split
    · rename_i h; exact enc_fit h
    · simp
  | raw l => exact Nat.le_refl _
  | bad => exact Nat.le_refl _
theorem outT_cost : ∀ ts : List Tok, (outT ts).length ≤ costT ts
  | [] => Nat.le_refl _
  | t :: ts => by
    have h1 := outT_cost ts
    have h2 := out_cost t
    simp only [outT, costT, List.flatMap_cons, List.length_append, List.map_cons, List.sum_cons] at h1 ⊢
    omega
/-! Readers. -/
def Rdr (α : Type) : Type := List Int → Except Int (α × List Int)
def rpure {α : Type} (x : α) : Rdr α := fun bs => .ok (x, bs)
def rbind {α β : Type} (p : Rdr α) (q : α → Rdr β) : Rdr β := fun bs => match p bs with
  | .error e => .error e
  | .ok (x, r) => q x r
def rmap {α β : Type} (f : α → β) (p : Rdr α) : Rdr β := rbind p fun x => rpure (f x)
def rnum : Rdr Int := fun bs => if (dn 0 0 bs).2.2 = 0 then .ok ((dn 0 0 bs).1, (dn 0 0 bs).2.1) else .error (dn 0 0 bs).2.2
def rsize : Rdr Int := rbind rnum fun n bs => if n > (bs.length : Int) then .error 13 else .ok (n, bs)
def rtake (n : Nat) : Rdr (List Int) := fun bs => .ok (bs.take n, bs.drop n)
def rmany {α : Type} (p : Rdr α) : Nat → Rdr (List α)
  | 0 => rpure []
  | k + 1 => rbind p fun x => rbind (rmany p k) fun xs => rpure (x :: xs)
def rlist {α : Type} (p : Rdr α) : Rdr (List α) := rbind rsize fun n => rmany p n.toNat
def rraw : Rdr (List Int) := rbind rsize fun n => rtake n.toNat
theorem rnum_ok {bs : List Int} {n : Int} {r : List Int} (hb : Bytes bs) (h : rnum bs = .ok (n, r)) : fits n = true ∧ bs = enc n.toNat ++ r := by
  unfold rnum at h
  split at h
  · rename_i he
    simp only [Except.ok.injEq, Prod.mk.injEq] at h
    obtain ⟨rfl, rfl⟩ := h
    have e3 : dn 0 0 bs = ((dn 0 0 bs).1, (dn 0 0 bs).2.1, 0) := Prod.ext rfl (Prod.ext rfl he)
    obtain ⟨q, h1, h2, _, h3⟩ := dn_inv bs 0 0 _ _ hb e3
    have e4 : (dn 0 0 bs).1 = (q : Int) := by rw [h1]; simp
    rw [e4] at h3 ⊢
    refine ⟨by simp [fits]; omega, h2⟩
  · cases h
theorem rnum_enc {n : Int} (h : fits n = true) (r : List Int) : rnum (enc n.toNat ++ r) = .ok (n, r) := by
  simp only [fits, Bool.and_eq_true, decide_eq_true_eq] at h
  have h1 := dn_enc n.toNat 0 0 r (by omega) (by simp; omega) (by omega) (by omega)
  unfold rnum
  rw [h1, if_pos rfl]
  simp
  omega
theorem rnum_cut {n : Int} (h : fits n = true) (j : Nat) (hj : j < (enc n.toNat).length) : rnum ((enc n.toNat).take j) = .error 13 := by
  simp only [fits, Bool.and_eq_true, decide_eq_true_eq] at h
  have h1 := dn_cut n.toNat 0 j 0 (by omega) (by simp; omega) (by omega) hj
  unfold rnum
  rw [h1, if_neg (by decide)]
/-- A reader, and the form that it reads. -/
structure Fit {α : Type} (p : Rdr α) (f : α → List Tok) : Prop where
  back : ∀ (x : α) (r : List Int), okT (f x) = true → p (outT (f x) ++ r) = .ok (x, r)
  from_ : ∀ (bs : List Int) (x : α) (r : List Int), Bytes bs → p bs = .ok (x, r) → okT (f x) = true ∧ bs = outT (f x) ++ r
  cut : ∀ (x : α) (j : Nat), okT (f x) = true → j < (outT (f x)).length → p ((outT (f x)).take j) = .error 13
theorem fit_num : Fit rnum (fun n => [.num n]) where
  back := fun x r h => by
    have hx : fits x = true := by simpa [okT, Tok.ok] using h
    simp only [outT, List.flatMap_cons, List.flatMap_nil, List.append_nil, Tok.out, if_pos hx]
    exact rnum_enc hx r
  from_ := fun bs x r hb h => by
    obtain ⟨h1, h2⟩ := rnum_ok hb h
    refine ⟨by simp [okT, Tok.ok, h1], ?_⟩
    simp only [outT, List.flatMap_cons, List.flatMap_nil, List.append_nil, Tok.out, if_pos h1]
    exact h2
  cut := fun x j h hj => by
    have hx : fits x = true := by simpa [okT, Tok.ok] using h
    simp only [outT, List.flatMap_cons, List.flatMap_nil, List.append_nil, Tok.out, if_pos hx] at hj ⊢
    exact rnum_cut hx j hj
theorem Fit.bind {α β γ : Type} {p : Rdr α} {f : α → List Tok} {q : α → Rdr β} {g : α → β → List Tok} {m : α → β → γ} {a : γ → α} {b : γ → β} {k : γ → List Tok} (hp : Fit p f) (hq : ∀ x, Fit (q x) (g x)) (ha : ∀ z, m (a z) (b z) = z) (ha1 : ∀ x y, a (m x y) = x) (hb1 : ∀ x y, b (m x y) = y) (hk : ∀ z, k z = f (a z) ++ g (a z) (b z)) : Fit (rbind p fun x => rmap (m x) (q x)) k where
  back := fun z r h => by
    rw [hk, okT_app, Bool.and_eq_true] at h
    rw [hk, outT_app, List.append_assoc]
    unfold rbind
    rw [hp.back _ _ h.1]
    dsimp only
    unfold rmap rbind
    rw [(hq _).back _ _ h.2]
    simp only [rpure, ha]
  from_ := fun bs z r hB h => by
    unfold rbind at h
    split at h
    · cases h
    · rename_i x r1 h1
      unfold rmap rbind at h
      dsimp only at h
      split at h
      · cases h
      · rename_i y r2 h2
        simp only [rpure, Except.ok.injEq, Prod.mk.injEq] at h
        obtain ⟨rfl, rfl⟩ := h
        obtain ⟨k1, k2⟩ := hp.from_ _ _ _ hB h1
        rw [k2] at hB
        obtain ⟨k3, k4⟩ := (hq x).from_ _ _ _ (bytes_right hB) h2
        rw [hk, ha1, hb1, okT_app, k1, k3, outT_app, List.append_assoc, ← k4]
        exact ⟨rfl, k2⟩
  cut := fun z j h hj => by
    rw [hk, okT_app, Bool.and_eq_true] at h
    rw [hk, outT_app] at hj ⊢
    unfold rbind
    rcases Nat.lt_or_ge j (outT (f (a z))).length with hlt | hge
    · rw [List.take_append_of_le_length (by omega), hp.cut _ _ h.1 hlt]
    · rw [List.take_append, List.take_of_length_le hge, hp.back _ _ h.1]
      dsimp only
      unfold rmap rbind
      rw [List.length_append] at hj
      rw [(hq _).cut _ _ h.2 (by omega)]
/-- Behind a size that bounds nothing but what comes. -/
theorem many_back {α : Type} {p : Rdr α} {f : α → List Tok} (hp : Fit p f) (r : List Int) : ∀ xs : List α, okT (xs.flatMap f) = true → rmany p xs.length (outT (xs.flatMap f) ++ r) = .ok (xs, r)
  | [], _ => rfl
  | x :: xs, h => by
    rw [List.flatMap_cons, okT_app, Bool.and_eq_true] at h
    rw [List.flatMap_cons, outT_app, List.append_assoc, List.length_cons, rmany]
    unfold rbind
    rw [hp.back _ _ h.1]
    dsimp only
    rw [many_back hp r xs h.2]
    rfl
theorem many_from {α : Type} {p : Rdr α} {f : α → List Tok} (hp : Fit p f) : ∀ (k : Nat) (bs : List Int) (xs : List α) (r : List Int), Bytes bs → rmany p k bs = .ok (xs, r) → xs.length = k ∧ okT (xs.flatMap f) = true ∧ bs = outT (xs.flatMap f) ++ r
  | 0, bs, xs, r, _, h => by
    simp only [rmany, rpure, Except.ok.injEq, Prod.mk.injEq] at h
    obtain ⟨rfl, rfl⟩ := h
    exact ⟨rfl, rfl, rfl⟩
  | k + 1, bs, xs, r, hB, h => by
    rw [rmany] at h
    unfold rbind at h
    split at h
    · cases h
    · rename_i x r1 h1
      dsimp only at h
      split at h
      · cases h
      · rename_i ys r2 h2
        simp only [rpure, Except.ok.injEq, Prod.mk.injEq] at h
        obtain ⟨rfl, rfl⟩ := h
        obtain ⟨k1, k2⟩ := hp.from_ _ _ _ hB h1
        rw [k2] at hB
        obtain ⟨k3, k4, k5⟩ := many_from hp k _ _ _ (bytes_right hB) h2
        rw [List.flatMap_cons, okT_app, k1, k4, outT_app, List.append_assoc, ← k5]
        exact ⟨by rw [List.length_cons, k3], rfl, k2⟩
theorem many_cut {α : Type} {p : Rdr α} {f : α → List Tok} (hp : Fit p f) : ∀ (xs : List α) (j : Nat), okT (xs.flatMap f) = true → j < (outT (xs.flatMap f)).length → rmany p xs.length ((outT (xs.flatMap f)).take j) = .error 13
  | [], j, _, hj => by simp [outT] at hj
  | x :: xs, j, h, hj => by
    rw [List.flatMap_cons, okT_app, Bool.and_eq_true] at h
    rw [List.flatMap_cons, outT_app] at hj ⊢
    rw [List.length_cons, rmany]
    unfold rbind
    rcases Nat.lt_or_ge j (outT (f x)).length with hlt | hge
    · rw [List.take_append_of_le_length (by omega), hp.cut _ _ h.1 hlt]
    · rw [List.take_append, List.take_of_length_le hge, hp.back _ _ h.1]
      dsimp only
      rw [List.length_append] at hj
      rw [many_cut hp xs _ h.2 (by omega)]
/-- Every form of this kind begins with a number. -/
def Starts {α : Type} (f : α → List Tok) : Prop := ∀ x, ∃ n ts, f x = .num n :: ts
theorem starts_len {α : Type} {f : α → List Tok} (hs : Starts f) : ∀ xs : List α, okT (xs.flatMap f) = true → xs.length ≤ (outT (xs.flatMap f)).length
  | [], _ => by simp
  | x :: xs, h => by
    rw [List.flatMap_cons, okT_app, Bool.and_eq_true] at h
    obtain ⟨n, ts, e⟩ := hs x
    have h1 := starts_len hs xs h.2
    have h2 := h.1
    rw [e] at h2
    have hn : fits n = true := by
      simp only [okT, List.all_cons, Bool.and_eq_true, Tok.ok] at h2
      exact h2.1
    rw [List.flatMap_cons, outT_app, List.length_append, List.length_cons, e]
    have : 1 ≤ (outT (.num n :: ts)).length := by
      simp only [outT, List.flatMap_cons, List.length_append, Tok.out, if_pos hn]
      have := enc_pos n.toNat
      omega
    omega
def listT {α : Type} (f : α → List Tok) (xs : List α) : List Tok := .num (xs.length : Int) :: xs.flatMap f
theorem okT_num (n : Int) (ts : List Tok) : okT (.num n :: ts) = (fits n && okT ts) := rfl
theorem outT_num {n : Int} (h : fits n = true) (ts : List Tok) : outT (.num n :: ts) = enc n.toNat ++ outT ts := by simp [outT, Tok.out, h]
theorem rsize_ok {bs : List Int} {n : Int} {r : List Int} (hb : Bytes bs) (h : rsize bs = .ok (n, r)) : fits n = true ∧ bs = enc n.toNat ++ r ∧ n ≤ (r.length : Int) := by
  unfold rsize rbind at h
  split at h
  · cases h
  · rename_i x r1 h1
    dsimp only at h
    split at h
    · cases h
    · rename_i h2
      simp only [Except.ok.injEq, Prod.mk.injEq] at h
      obtain ⟨rfl, rfl⟩ := h
      obtain ⟨k1, k2⟩ := rnum_ok hb h1
      exact ⟨k1, k2, by omega⟩
theorem rsize_enc {n : Int} (h : fits n = true) (r : List Int) (hl : n ≤ (r.length : Int)) : rsize (enc n.toNat ++ r) = .ok (n, r) := by
  unfold rsize rbind
  rw [rnum_enc h]
  dsimp only
  rw [if_neg (by omega)]
theorem rsize_cut {n : Int} (h : fits n = true) (j : Nat) (hj : j < (enc n.toNat).length) : rsize ((enc n.toNat).take j) = .error 13 := by
  unfold rsize rbind
  rw [rnum_cut h j hj]
theorem fits_len {n : Int} (h : fits n = true) : 0 ≤ n := by
  simp only [fits, Bool.and_eq_true, decide_eq_true_eq] at h
  exact h.1
theorem fit_list {α : Type} {p : Rdr α} {f : α → List Tok} (hp : Fit p f) (hs : Starts f) : Fit (rlist p) (listT f) where
  back := fun xs r h => by
    unfold listT at h ⊢
    rw [okT_num, Bool.and_eq_true] at h
    rw [outT_num h.1, List.append_assoc]
    have hl := starts_len hs xs h.2
    unfold rlist rbind
    rw [rsize_enc h.1 _ (by rw [List.length_append]; omega)]
    dsimp only
    rw [Int.toNat_natCast]
    exact many_back hp r xs h.2
  from_ := fun bs xs r hB h => by
    unfold rlist rbind at h
    split at h
    · cases h
    · rename_i n r1 h1
      obtain ⟨k1, k2, k3⟩ := rsize_ok hB h1
      rw [k2] at hB
      obtain ⟨k4, k5, k6⟩ := many_from hp _ _ _ _ (bytes_right hB) h
      have h0 := fits_len k1
      have e : (xs.length : Int) = n := by omega
      unfold listT
      rw [okT_num, e, k1, k5, outT_num k1, List.append_assoc, ← k6]
      exact ⟨rfl, k2⟩
  cut := fun xs j h hj => by
    unfold listT at h hj ⊢
    rw [okT_num, Bool.and_eq_true] at h
    rw [outT_num h.1] at hj ⊢
    have hl := starts_len hs xs h.2
    unfold rlist rbind
    rcases Nat.lt_or_ge j (enc ((xs.length : Int)).toNat).length with hlt | hge
    · rw [List.take_append_of_le_length (by omega), rsize_cut h.1 _ hlt]
    · rw [List.take_append, List.take_of_length_le hge]
      rw [List.length_append] at hj
      unfold rsize rbind
      rw [rnum_enc h.1]
      dsimp only
      split
      · rename_i e he
        split at he
        · simp only [Except.error.injEq] at he
          rw [← he]
        · cases he
      · rename_i x r he
        split at he
        · cases he
        · simp only [Except.ok.injEq, Prod.mk.injEq] at he
          obtain ⟨rfl, rfl⟩ := he
          rw [Int.toNat_natCast] at hge hj ⊢
          exact many_cut hp xs _ h.2 (by omega)
def rawT (l : List Int) : List Tok := [.num (l.length : Int), .raw l]
theorem outT_raw {l : List Int} (h : fits (l.length : Int) = true) : outT (rawT l) = enc ((l.length : Int)).toNat ++ l := by simp [outT, rawT, Tok.out, h]
theorem okT_raw (l : List Int) : okT (rawT l) = fits (l.length : Int) := by simp [okT, rawT, Tok.ok]
theorem fit_raw : Fit rraw rawT where
  back := fun l r h => by
    rw [okT_raw] at h
    rw [outT_raw h, List.append_assoc]
    unfold rraw rbind
    rw [rsize_enc h _ (by rw [List.length_append]; omega)]
    simp [rtake]
  from_ := fun bs l r hB h => by
    unfold rraw rbind at h
    split at h
    · cases h
    · rename_i n r1 h1
      obtain ⟨k1, k2, k3⟩ := rsize_ok hB h1
      simp only [rtake, Except.ok.injEq, Prod.mk.injEq] at h
      obtain ⟨rfl, rfl⟩ := h
      have h0 := fits_len k1
      have e : ((r1.take n.toNat).length : Int) = n := by rw [List.length_take]; omega
      rw [okT_raw, outT_raw (by rw [e]; exact k1), e, List.append_assoc, List.take_append_drop]
      exact ⟨k1, k2⟩
  cut := fun l j h hj => by
    rw [okT_raw] at h
    rw [outT_raw h] at hj ⊢
    unfold rraw rbind
    rcases Nat.lt_or_ge j (enc ((l.length : Int)).toNat).length with hlt | hge
    · rw [List.take_append_of_le_length (by omega), rsize_cut h _ hlt]
    · rw [List.take_append, List.take_of_length_le hge]
      rw [List.length_append] at hj
      unfold rsize rbind
      rw [rnum_enc h]
      dsimp only
      rw [if_pos (by rw [List.length_take]; omega)]
theorem Fit.iso {α β : Type} {p : Rdr α} {f : α → List Tok} (hp : Fit p f) (u : α → β) (v : β → α) (huv : ∀ x, u (v x) = x) (hvu : ∀ bs x r, Bytes bs → p bs = .ok (x, r) → v (u x) = x) : Fit (rmap u p) (fun y => f (v y)) where
  back := fun y r h => by
    unfold rmap rbind
    rw [hp.back _ _ h]
    simp [rpure, huv]
  from_ := fun bs y r hB h => by
    unfold rmap rbind at h
    split at h
    · cases h
    · rename_i x r1 h1
      simp only [rpure, Except.ok.injEq, Prod.mk.injEq] at h
      obtain ⟨rfl, rfl⟩ := h
      rw [hvu _ _ _ hB h1]
      exact hp.from_ _ _ _ hB h1
  cut := fun y j h hj => by
    unfold rmap rbind
    rw [hp.cut _ _ h hj]
/-- Nothing is read for a thing that is known. -/
theorem fit_known {α : Type} [DecidableEq α] (z : α) : Fit (rpure z) (fun x => if x = z then [] else [.bad]) where
  back := fun x r h => by
    by_cases e : x = z
    · rw [if_pos e, e]; rfl
    · rw [if_neg e] at h; cases h
  from_ := fun bs x r _ h => by
    simp only [rpure, Except.ok.injEq, Prod.mk.injEq] at h
    obtain ⟨rfl, rfl⟩ := h
    rw [if_pos rfl]
    exact ⟨rfl, rfl⟩
  cut := fun x j h hj => by
    by_cases e : x = z
    · rw [if_pos e] at hj; simp [outT] at hj
    · rw [if_neg e] at h; cases h
/-! A reader's state: what is left, or the first error. -/
inductive St where
  | left (bs : List Int)
  | err (e : Int)
/-- From a state a reader comes to another one, with a thing (whatever it is, if there is an error). -/
def Step {α : Type} (p : Rdr α) (st : St) (x : α) (st' : St) : Prop :=
  match st with
  | .err e => st' = .err e
  | .left bs => match p bs with
    | .error e => st' = .err e
    | .ok (y, r) => x = y ∧ st' = .left r
theorem Step.pure {α : Type} (x : α) (st : St) : Step (rpure x) st x st := by
  cases st <;> simp [Step, rpure]
theorem Step.err {α : Type} {p : Rdr α} {e : Int} (x : α) : Step p (.err e) x (.err e) := rfl
theorem Step.bind {α β : Type} {p : Rdr α} {q : α → Rdr β} {st st1 st2 : St} {x : α} {y : β} (h : Step p st x st1) (h2 : Step (q x) st1 y st2) : Step (rbind p q) st y st2 := by
  cases st with
  | err e =>
    cases (h : st1 = .err e)
    exact h2
  | left bs =>
    simp only [Step] at h ⊢
    unfold rbind
    cases hp : p bs with
    | error e =>
      rw [hp] at h
      cases (h : st1 = .err e)
      exact h2
    | ok yr =>
      obtain ⟨z, r⟩ := yr
      rw [hp] at h
      obtain ⟨rfl, rfl⟩ := h
      exact h2
theorem Step.map {α β : Type} {p : Rdr α} {f : α → β} {st st1 : St} {x : α} (h : Step p st x st1) : Step (rmap f p) st (f x) st1 := Step.bind h (Step.pure _ _)
theorem Step.any {α : Type} {p : Rdr α} {st : St} {e : Int} {x : α} (h : Step p st x (.err e)) (y : α) : Step p st y (.err e) := by
  cases st with
  | err e => exact h
  | left bs =>
    simp only [Step] at h ⊢
    split at h
    · exact h
    · cases h.2
/-- What the end says. -/
def St.fin : St → Int
  | .err e => e
  | .left bs => if bs = [] then 0 else 12
theorem Step.left {α : Type} {p : Rdr α} {bs : List Int} {x : α} {st : St} (h : Step p (.left bs) x st) : (∃ e, p bs = .error e ∧ st = .err e) ∨ ∃ r, p bs = .ok (x, r) ∧ st = .left r := by
  simp only [Step] at h
  split at h
  · rename_i e hp; exact .inl ⟨e, hp, h⟩
  · rename_i y r hp; obtain ⟨rfl, rfl⟩ := h; exact .inr ⟨r, hp, rfl⟩
end Go.Proofs.Ythefbeekcjchcaa.P
