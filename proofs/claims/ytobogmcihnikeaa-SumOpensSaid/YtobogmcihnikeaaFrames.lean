import Derived.Test.YtobogmcihnikeaaEvMore
import Derived.Test.YtobogmcihnikeaaPx10
namespace Go.Proofs.Ytobogmcihnikeaa.Pure
open Go.RowKit Go.Proofs.Ytobogmcihnikeaa.P Go.Proofs.Ytobogmcihnikeaa.Crc Go.Proofs.Ytobogmcihnikeaa.Read Go.Proofs.YtobogmcihnikeaaW.PrintWords Go.Proofs.YtobogmcihnikeaaW.PrintLast Go.Proofs.YtobogmcihnikeaaW.PrintMore

def four (n : Nat) : List Int := [((n % 256 : Nat) : Int), ((n / 256 % 256 : Nat) : Int), ((n / 65536 % 256 : Nat) : Int), ((n / 16777216 % 256 : Nat) : Int)]
theorem four_B (n : Nat) : B (four n) := B_cons (by omega) (B_cons (by omega) (B_cons (by omega) (B_cons (by omega) B_nil)))
theorem four_len (n : Nat) : (four n).length = 4 := rfl
theorem four_f (n : Nat) : sum_four.f (n : Int) = some (four n) := by
  unfold sum_four.f four
  simp only [Option.some.injEq, List.cons.injEq, and_true]
  omega
/-- The number that the first four bytes are. -/
def num4 (l : List Int) : Nat := (l.getD 0 0).toNat + 256 * (l.getD 1 0).toNat + 65536 * (l.getD 2 0).toNat + 16777216 * (l.getD 3 0).toNat
theorem num4_four (n : Nat) (h : n < 4294967296) (r : List Int) : num4 (four n ++ r) = n := by
  unfold num4 four
  simp
  omega
theorem B_getD {l : List Int} (h : B l) (i : Nat) : 0 ≤ l.getD i 0 ∧ l.getD i 0 < 256 := by
  rw [List.getD_eq_getElem?_getD]
  by_cases hi : i < l.length
  · rw [List.getElem?_eq_getElem hi]; exact h _ (List.getElem_mem hi)
  · rw [List.getElem?_eq_none (by omega)]; decide
theorem num4_lt {l : List Int} (h : B l) : num4 l < 4294967296 := by
  have h0 := B_getD h 0
  have h1 := B_getD h 1
  have h2 := B_getD h 2
  have h3 := B_getD h 3
  unfold num4
  omega
theorem four_num4 {l : List Int} (h : B l) (hn : 4 ≤ l.length) : four (num4 l) = l.take 4 := by
  match l, hn with
  | a :: b :: c :: d :: r, _ =>
    have h0 := h a (by simp)
    have h1 := h b (by simp)
    have h2 := h c (by simp)
    have h3 := h d (by simp)
    unfold num4 four
    simp
    omega
theorem four_inj {a b : Nat} (ha : a < 4294967296) (hb : b < 4294967296) (h : four a = four b) : a = b := by
  have h1 := num4_four a ha []
  have h2 := num4_four b hb []
  rw [h] at h1
  omega
theorem or_i64 (a b : Nat) (ha : a < 2 ^ 62) (hb : b < 2 ^ 62) : Go.bits .or .i64 (a : Int) (b : Int) = ((a ||| b : Nat) : Int) :=
  (bits_nat .i64 62 (by decide) (fun n h0 h1 => by rw [IntKind.wrap_i64]; omega) a b ha hb).2
theorem nat_or_add (i x y : Nat) (hx : x < 2 ^ i) : x ||| (y * 2 ^ i) = x + y * 2 ^ i := by
  rw [Nat.or_comm, Nat.add_comm]
  exact nat_join i (y * 2 ^ i) x (Nat.mul_mod_left _ _) hx
theorem number_f {l : List Int} (h : B l) (hn : 4 ≤ l.length) : sum_number.f l = some ((num4 l : Nat) : Int) := by
  have g : ∀ i : Nat, rd l (i : Int) = (((l.getD i 0).toNat : Nat) : Int) := fun i => by
    have := B_getD h i
    unfold rd
    rw [Int.toNat_natCast]
    omega
  have h0 := B_getD h 0
  have h1 := B_getD h 1
  have h2 := B_getD h 2
  have h3 := B_getD h 3
  unfold sum_number.f
  rw [if_pos (by omega), if_pos (by omega), if_pos (by omega), if_pos (by omega)]
  have g0 : rd l 0 = _ := g 0
  have g1 : rd l 1 = _ := g 1
  have g2 : rd l 2 = _ := g 2
  have g3 : rd l 3 = _ := g 3
  rw [g0, g1, g2, g3]
  unfold num4
  generalize l.getD 0 0 = a at h0 ⊢
  generalize l.getD 1 0 = b at h1 ⊢
  generalize l.getD 2 0 = c at h2 ⊢
  generalize l.getD 3 0 = d at h3 ⊢
  obtain ⟨a, rfl⟩ := Int.eq_ofNat_of_zero_le h0.1
  obtain ⟨b, rfl⟩ := Int.eq_ofNat_of_zero_le h1.1
  obtain ⟨c, rfl⟩ := Int.eq_ofNat_of_zero_le h2.1
  obtain ⟨d, rfl⟩ := Int.eq_ofNat_of_zero_le h3.1
  simp only [Int.toNat_natCast]
  have w : ∀ x : Nat, x < 4294967296 → wrap64 (x : Int) = (x : Int) := fun x hx => w64 (by omega) (by omega)
  rw [w a (by omega), w b (by omega), w c (by omega), w d (by omega)]
  rw [show (b : Int) * 256 = ((b * 2 ^ 8 : Nat) : Int) by omega, show (c : Int) * 65536 = ((c * 2 ^ 16 : Nat) : Int) by omega, show (d : Int) * 16777216 = ((d * 2 ^ 24 : Nat) : Int) by omega]
  rw [w _ (by omega), w _ (by omega), w _ (by omega), or_i64 _ _ (by omega) (by omega), nat_or_add 8 a b (by omega), or_i64 _ _ (by omega) (by omega), nat_or_add 16 _ c (by omega), or_i64 _ _ (by omega) (by omega), nat_or_add 24 _ d (by omega)]
  congr 1
  omega
theorem rdL {ls : List (List Int)} {i : Nat} (h : i < ls.length) : rd_L1 ls (i : Int) = ls[i] := by
  unfold rd_L1
  rw [Int.toNat_natCast, List.getD_eq_getElem?_getD, List.getElem?_eq_getElem h]
  rfl
theorem concat_put (ls : List (List Int)) (hm : ls.length ≤ 1000) (hs : ls.flatten.length ≤ 140737488355000) (d : Nat) : ∀ i : Nat, i + d = ls.length →
    Ev (fun k => slices_Concat_byte_byte.l1 k (ls.take i).flatten ls (ls.length : Int) (i : Int)) ls.flatten := by
  induction d with
  | zero =>
    intro i hi
    obtain rfl : i = ls.length := by omega
    rw [List.take_length]
    exact Ev.step (f := fun _ => some _) (fun k => by rw [slices_Concat_byte_byte.l1, if_neg (by omega)]) (Ev.now _)
  | succ d ih =>
    intro i hi
    have hlt : i < ls.length := by omega
    have e : (ls.take (i + 1)).flatten = (ls.take i).flatten ++ ls[i] := by
      rw [List.take_succ_eq_append_getElem hlt, List.flatten_append, List.flatten_singleton]
    have hle : (ls.take (i + 1)).flatten.length ≤ ls.flatten.length := by
      conv => rhs; rw [← List.take_append_drop (i + 1) ls, List.flatten_append, List.length_append]
      omega
    rw [e, List.length_append] at hle
    have h := ih (i + 1) (by omega)
    rw [e] at h
    refine Ev.step (fun k => ?_) h
    rw [slices_Concat_byte_byte.l1, if_pos (by omega), if_pos (by omega), if_pos (by omega), rdL hlt, if_pos (by omega), show wrap64 ((i : Int) + 1) = ((i + 1 : Nat) : Int) by unfold wrap64; omega]
theorem concat_sum (ls : List (List Int)) (hm : ls.length ≤ 1000) (hs : ls.flatten.length ≤ 140737488355000) (d : Nat) : ∀ i : Nat, i + d = ls.length →
    Ev (fun k => slices_Concat_byte_byte.l0 k ls (((ls.take i).flatten.length : Nat) : Int) ls (ls.length : Int) (i : Int)) ls.flatten := by
  induction d with
  | zero =>
    intro i hi
    obtain rfl : i = ls.length := by omega
    rw [List.take_length]
    have h := concat_put ls hm hs ls.length 0 (by omega)
    rw [List.take_zero] at h
    refine Ev.step (f := fun k => slices_Concat_byte_byte.l1 k [] ls (ls.length : Int) 0) (fun k => ?_) h
    have hg : Grow_f ((ls.flatten.length : Nat) : Int) = some [] := by
      unfold Grow_f
      rw [if_pos (by omega)]
    rw [slices_Concat_byte_byte.l0, if_neg (by omega), hg]
    rfl
  | succ d ih =>
    intro i hi
    have hlt : i < ls.length := by omega
    have e : (ls.take (i + 1)).flatten = (ls.take i).flatten ++ ls[i] := by
      rw [List.take_succ_eq_append_getElem hlt, List.flatten_append, List.flatten_singleton]
    have hle : (ls.take (i + 1)).flatten.length ≤ ls.flatten.length := by
      conv => rhs; rw [← List.take_append_drop (i + 1) ls, List.flatten_append, List.length_append]
      omega
    rw [e, List.length_append] at hle
    have h := ih (i + 1) (by omega)
    rw [e, List.length_append] at h
    have hw : wrap64 ((((ls.take i).flatten.length : Nat) : Int) + ((ls[i]).length : Int)) = (((ls.take i).flatten.length + (ls[i]).length : Nat) : Int) := by unfold wrap64; omega
    refine Ev.step (fun k => ?_) h
    rw [slices_Concat_byte_byte.l0, if_pos (by omega), if_pos (by omega), if_pos (by omega), rdL hlt, hw, if_neg (by omega), show wrap64 ((i : Int) + 1) = ((i + 1 : Nat) : Int) by unfold wrap64; omega]
theorem concat_ev (ls : List (List Int)) (hm : ls.length ≤ 1000) (hs : ls.flatten.length ≤ 140737488355000) : Ev (fun k => slices_Concat_byte_byte.f k ls) ls.flatten := by
  have h := concat_sum ls hm hs ls.length 0 (by omega)
  exact h
/-- A payload's frame. -/
def frame (p : List Int) : List Int := four p.length ++ (p ++ four (crc (nt (four p.length ++ p))))
theorem frame_len (p : List Int) : (frame p).length = p.length + 8 := by
  unfold frame
  simp [four_len]
  omega
theorem frame_B {p : List Int} (h : B p) : B (frame p) := B_append (four_B _) (B_append h (four_B _))
theorem Frame_ev (p : List Int) (h : B p) (hn : p.length ≤ 65536) : Ev (fun k => sum_Frame.f k p) (frame p, 0) := by
  unfold sum_Frame.f
  refine Ev_neg (by omega) ?_
  rw [four_f]
  refine Ev.bind (Ev.now _) ?_
  have h1 := Of_ev [four p.length, p] (by simp [four_B, h]) (by simp [four_len]; omega) (by simp)
  simp only [List.flatten_cons, List.flatten_nil, List.append_nil] at h1
  refine Ev.bind h1 ?_
  simp only [four_f]
  refine Ev.bind (Ev.now _) ?_
  have h2 := concat_ev [four p.length, p, four (crc (nt (four p.length ++ p)))] (by simp) (by simp [four_len]; omega)
  simp only [List.flatten_cons, List.flatten_nil, List.append_nil] at h2
  exact Ev.bind h2 (Ev.now _)
theorem Same_loop (a b : List Int) (hl : a.length = b.length) (hm : a.length ≤ 140737488355328) (d : Nat) : ∀ i : Nat, i + d = a.length → (∀ j, j < i → a.getD j 0 = b.getD j 0) →
    Ev (fun k => slipwayref11_Same.l0 k a b (i : Int)) (decide (a = b)) := by
  induction d with
  | zero =>
    intro i hi hj
    have e : a = b := by
      apply List.ext_getElem hl
      intro j h1 h2
      have := hj j (by omega)
      rwa [List.getD_eq_getElem?_getD, List.getD_eq_getElem?_getD, List.getElem?_eq_getElem h1, List.getElem?_eq_getElem h2] at this
    rw [decide_eq_true e]
    exact Ev.step (f := fun _ => some _) (fun k => by rw [slipwayref11_Same.l0, if_neg (by omega)]) (Ev.now _)
  | succ d ih =>
    intro i hi hj
    have h1 : i < a.length := by omega
    have h2 : i < b.length := by omega
    by_cases c : a[i] = b[i]
    · refine Ev.step (fun k => ?_) (ih (i + 1) (by omega) fun j hj' => ?_)
      · rw [slipwayref11_Same.l0, if_pos (by omega), if_pos (by omega), if_pos (by omega), rd_at h1, rd_at h2, if_pos c, show wrap64 ((i : Int) + 1) = ((i + 1 : Nat) : Int) by unfold wrap64; omega]
      · rcases Nat.lt_or_ge j i with h | h
        · exact hj j h
        · obtain rfl : j = i := by omega
          rw [List.getD_eq_getElem?_getD, List.getD_eq_getElem?_getD, List.getElem?_eq_getElem h1, List.getElem?_eq_getElem h2]
          exact c
    · have e : ¬ a = b := fun e => c (by subst e; rfl)
      rw [decide_eq_false e]
      exact Ev.step (f := fun _ => some _) (fun k => by rw [slipwayref11_Same.l0, if_pos (by omega), if_pos (by omega), if_pos (by omega), rd_at h1, rd_at h2, if_neg c]) (Ev.now _)
theorem Same_ev (a b : List Int) (hm : a.length ≤ 140737488355328) : Ev (fun k => slipwayref11_Same.f k a b) (decide (a = b)) := by
  unfold slipwayref11_Same.f
  by_cases h : a.length = b.length
  · exact Ev_pos (by omega) (Same_loop a b h hm a.length 0 (by omega) (fun j hj => by omega))
  · rw [decide_eq_false (fun e => h (by rw [e]))]
    exact Ev_neg (by omega) (Ev.now _)
theorem Same_self (a : List Int) (hm : a.length ≤ 140737488355328) : Ev (fun k => slipwayref11_Same.f k a a) true := by
  have h := Same_ev a a hm
  rwa [decide_eq_true rfl] at h
/-- What a frame is read as. -/
def opened (l : List Int) : List Int × Int × Int :=
  if l.length < 4 then ([], 0, 13) else
  if num4 l > 65536 then ([], 0, 11) else
  if l.length < num4 l + 8 then ([], 0, 13) else
  if crc (nt (l.take (num4 l + 4))) = num4 (l.drop (num4 l + 4)) then ((l.take (num4 l + 4)).drop 4, ((num4 l + 8 : Nat) : Int), 0) else ([], 0, 12)
theorem Open_ev (l : List Int) (h : B l) (hm : l.length ≤ 140737488355000) : Ev (fun k => sum_Open.f k l) (opened l) := by
  unfold sum_Open.f opened
  by_cases c1 : l.length < 4
  · rw [if_pos c1]; exact Ev_pos (by omega) (Ev.now _)
  rw [if_neg c1]
  refine Ev_neg (by omega) ?_
  rw [number_f h (by omega)]
  refine Ev.bind (Ev.now _) ?_
  by_cases c2 : num4 l > 65536
  · rw [if_pos c2]; exact Ev_pos (by omega) (Ev.now _)
  rw [if_neg c2]
  refine Ev_neg (by omega) ?_
  have w8 : wrap64 (((num4 l : Nat) : Int) + 8) = ((num4 l + 8 : Nat) : Int) := by unfold wrap64; omega
  have w4 : wrap64 (((num4 l : Nat) : Int) + 4) = ((num4 l + 4 : Nat) : Int) := by unfold wrap64; omega
  simp only [w8, w4, Int.toNat_natCast]
  by_cases c3 : l.length < num4 l + 8
  · rw [if_pos c3]; exact Ev_pos (by omega) (Ev.now _)
  rw [if_neg c3]
  refine Ev_neg (by omega) (Ev_pos (by omega) (Ev_pos (by omega) ?_))
  refine Ev.bind (Of1_ev _ (B_take h _) (by rw [List.length_take]; omega)) ?_
  rw [number_f (B_drop h _) (by rw [List.length_drop]; omega)]
  refine Ev.bind (Ev.now _) ?_
  by_cases c4 : crc (nt (l.take (num4 l + 4))) = num4 (l.drop (num4 l + 4))
  · rw [if_pos c4]
    refine Ev_pos (by omega) (Ev_pos (by omega) ?_)
    unfold slices_Clone_byte_byte.f
    rw [if_pos (by rw [List.length_drop, List.length_take]; omega)]
    exact Ev.bind (Ev.now _) (Ev.now _)
  · rw [if_neg c4]
    exact Ev_neg (by omega) (Ev.now _)
theorem opened_frame (p r : List Int) (h : B p) (hn : p.length ≤ 65536) : opened (frame p ++ r) = (p, ((p.length + 8 : Nat) : Int), 0) := by
  have e : frame p ++ r = four p.length ++ (p ++ (four (crc (nt (four p.length ++ p))) ++ r)) := by
    unfold frame
    simp only [List.append_assoc]
  have hl : (frame p ++ r).length = p.length + 8 + r.length := by rw [List.length_append, frame_len]
  have h4 : num4 (frame p ++ r) = p.length := by
    rw [e]
    exact num4_four _ (by omega) _
  have ht : (frame p ++ r).take (p.length + 4) = four p.length ++ p := by
    rw [e, ← List.append_assoc, List.take_left' (by simp [four_len]; omega)]
  have hd : (frame p ++ r).drop (p.length + 4) = four (crc (nt (four p.length ++ p))) ++ r := by
    rw [e, ← List.append_assoc, List.drop_left' (by simp [four_len]; omega)]
  unfold opened
  rw [hl, h4, if_neg (by omega), if_neg (by omega), if_neg (by omega), ht, hd, num4_four _ (crc_lt (nt_lt (B_append (four_B _) h))), if_pos rfl, List.drop_left' (by rfl)]
end Go.Proofs.Ytobogmcihnikeaa.Pure
