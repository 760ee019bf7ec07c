import Derived.Test.YtobogmcihnikeaaCrc
import Derived.Test.YtobogmcihnikeaaPx5
import Derived.Laws.BitsAllLaws
namespace Go.Proofs.Ytobogmcihnikeaa.Pure
open Go.RowKit Go.Proofs.Ytobogmcihnikeaa.P Go.Proofs.Ytobogmcihnikeaa.Crc Go.Proofs.YtobogmcihnikeaaW.PrintWords Go.Proofs.YtobogmcihnikeaaW.PrintLast

/-- A list of bytes. -/
def B (l : List Int) : Prop := ∀ x ∈ l, 0 ≤ x ∧ x < 256
def nt (l : List Int) : List Nat := l.map Int.toNat
theorem B_nil : B [] := fun x h => by simp at h
theorem B_append {a b : List Int} (ha : B a) (hb : B b) : B (a ++ b) := fun x h => by
  rcases List.mem_append.1 h with h | h
  · exact ha x h
  · exact hb x h
theorem B_cons {x : Int} {l : List Int} (hx : 0 ≤ x ∧ x < 256) (hl : B l) : B (x :: l) := fun y h => by
  rcases List.mem_cons.1 h with rfl | h
  · exact hx
  · exact hl y h
theorem B_take {l : List Int} (h : B l) (n : Nat) : B (l.take n) := fun x hx => h x (List.mem_of_mem_take hx)
theorem B_drop {l : List Int} (h : B l) (n : Nat) : B (l.drop n) := fun x hx => h x (List.mem_of_mem_drop hx)
theorem B_wf {l : List Int} (h : ∀ x ∈ l, (Lit.int .u8 x).wf = true) : B l := fun x hx => by
  have := h x hx
  simp only [Lit.wf, decide_eq_true_eq, Bool.and_eq_true] at this
  rw [show IntKind.u8.min = 0 from rfl, show IntKind.u8.max = 255 from rfl] at this
  omega
theorem nt_lt {l : List Int} (h : B l) : ∀ x ∈ nt l, x < 256 := fun x hx => by
  obtain ⟨y, hy, rfl⟩ := List.mem_map.1 hx
  have := h y hy
  omega
theorem rd_at {l : List Int} {i : Nat} (h : i < l.length) : rd l (i : Int) = l[i] := by
  unfold rd
  rw [Int.toNat_natCast, List.getD_eq_getElem?_getD, List.getElem?_eq_getElem h]
  rfl
theorem w64 {x : Int} (h0 : -9223372036854775808 ≤ x) (h1 : x < 9223372036854775808) : wrap64 x = x := by
  unfold wrap64
  omega

theorem bit_step (c : Nat) (hc : c < 4294967296) :
    Go.bits .xor .u32 ((c : Int) / 2) (Go.bits .and .u32 2197175160 ((-(Go.bits .and .u32 (c : Int) 1)) % 4294967296)) = ((Crc.S c : Nat) : Int) := by
  have h1 : Go.bits .and .u32 (c : Int) 1 = ((c % 2 : Nat) : Int) := by
    have := u32_and_nat c 1 hc (by decide)
    rw [Nat.and_one_is_mod] at this
    exact this
  rw [h1]
  have h2 : ((c : Int) / 2) = ((c / 2 : Nat) : Int) := by omega
  rw [h2]
  rcases Nat.mod_two_eq_zero_or_one c with e | e
  · rw [e, show (-((0 : Nat) : Int)) % 4294967296 = ((0 : Nat) : Int) from rfl]
    have h3 : Go.bits .and .u32 2197175160 ((0 : Nat) : Int) = ((0 : Nat) : Int) := by
      have := u32_and_nat 2197175160 0 (by decide) (by decide)
      rwa [Nat.and_zero] at this
    rw [h3, u32_xor_nat _ _ (by omega) (by decide), Nat.xor_zero]
    unfold Crc.S
    rw [if_neg (by omega)]
  · rw [e, show (-((1 : Nat) : Int)) % 4294967296 = ((4294967295 : Nat) : Int) from rfl]
    have h3 : Go.bits .and .u32 2197175160 ((4294967295 : Nat) : Int) = ((2197175160 : Nat) : Int) := by
      have := u32_and_nat 2197175160 4294967295 (by decide) (by decide)
      rwa [show (2197175160 &&& 4294967295 : Nat) = 2197175160 by decide] at this
    rw [h3, u32_xor_nat _ _ (by omega) (by decide)]
    unfold Crc.S
    rw [if_pos e]

theorem More_bits (l : List Int) (n i r : Int) (j : Nat) : ∀ (c : Nat), c < 4294967296 → j ≤ 8 →
    Ev (fun k => sum_More.l0 k ((it j c : Nat) : Int) l n (wrap64 (i + 1))) r → Ev (fun k => sum_More.l1 k (c : Int) l n i (8 - (j : Int))) r := by
  induction j with
  | zero =>
    intro c hc _ h
    refine Ev.step (fun k => ?_) h
    rw [sum_More.l1, if_neg (by omega)]
    rfl
  | succ j ih =>
    intro c hc hj h
    refine Ev.step (f := fun k => sum_More.l1 k ((Crc.S c : Nat) : Int) l n i (8 - (j : Int))) (fun k => ?_) (ih (Crc.S c) (Crc.S_lt hc) (by omega) h)
    rw [sum_More.l1, if_pos (by omega), bit_step c hc]
    rw [show wrap64 (8 - ((j + 1 : Nat) : Int) + 1) = 8 - (j : Int) by unfold wrap64; omega]
theorem More_loop (l : List Int) (hl : B l) (hn : l.length ≤ 140737488355328) (d : Nat) : ∀ (c i : Nat), c < 4294967296 → i + d = l.length →
    Ev (fun k => sum_More.l0 k (c : Int) l (l.length : Int) (i : Int)) ((reg c (nt (l.drop i)) ^^^ full : Nat) : Int) := by
  induction d with
  | zero =>
    intro c i hc hi
    refine Ev.step (f := fun _ => some _) (fun k => ?_) (Ev.now _)
    rw [sum_More.l0, if_neg (by omega), List.drop_of_length_le (by omega)]
    have h := u32_xor_nat c 4294967295 hc (by decide)
    have hlt := Nat.xor_lt_two_pow (n := 32) hc (show full < 4294967296 by decide)
    rw [show ((4294967295 : Nat) : Int) = 4294967295 from rfl] at h
    rw [h, w64 (by omega) (by have : (2 : Nat) ^ 32 = 4294967296 := by decide
                              show (((c ^^^ full : Nat)) : Int) < _
                              omega)]
    rfl
  | succ d ih =>
    intro c i hc hi
    have hlt : i < l.length := by omega
    have hx := hl l[i] (List.getElem_mem hlt)
    have hxr : Go.bits .xor .u32 (c : Int) ((rd l (i : Int)) % 4294967296) = ((c ^^^ (l[i]).toNat : Nat) : Int) := by
      rw [rd_at hlt, show l[i] % 4294967296 = (((l[i]).toNat : Nat) : Int) by omega]
      exact u32_xor_nat _ _ hc (by omega)
    have hc' : c ^^^ (l[i]).toNat < 4294967296 := Nat.xor_lt_two_pow (n := 32) hc (by omega)
    have h := More_bits l (l.length : Int) (i : Int) _ 8 _ hc' (Nat.le_refl _) (by
      rw [show wrap64 ((i : Int) + 1) = ((i + 1 : Nat) : Int) by unfold wrap64; omega]
      exact ih _ (i + 1) (it_lt 8 hc') (by omega))
    refine Ev.step (f := fun k => sum_More.l1 k ((c ^^^ (l[i]).toNat : Nat) : Int) l (l.length : Int) (i : Int) 0) (fun k => ?_) ?_
    · rw [sum_More.l0, if_pos (by omega), if_pos (by omega), if_pos (by omega), hxr]
    · rw [List.drop_eq_getElem_cons hlt]
      exact h
/-- Going on from a sum. -/
theorem More_ev (s : Nat) (hs : s < 4294967296) (l : List Int) (hl : B l) (hn : l.length ≤ 140737488355328) :
    Ev (fun k => sum_More.f k (s : Int) l) ((reg (s ^^^ full) (nt l) ^^^ full : Nat) : Int) := by
  have h := More_loop l hl hn l.length (s ^^^ full) 0 (Nat.xor_lt_two_pow (n := 32) hs (by decide)) (by omega)
  rw [List.drop_zero] at h
  refine Ev.congr (fun k => ?_) h
  unfold sum_More.f
  rw [show (s : Int) % 4294967296 = (s : Int) by omega, show (4294967295 : Int) = ((4294967295 : Nat) : Int) from rfl, u32_xor_nat s 4294967295 hs (by decide)]
  rfl
theorem sum_lt (s : Nat) (hs : s < 4294967296) {l : List Int} (hl : B l) : reg (s ^^^ full) (nt l) ^^^ full < 4294967296 :=
  Nat.xor_lt_two_pow (n := 32) (reg_lt _ (Nat.xor_lt_two_pow (n := 32) hs (by decide)) (nt_lt hl)) (by decide)
theorem nt_append (a b : List Int) : nt (a ++ b) = nt a ++ nt b := by simp [nt]
theorem xff (x : Nat) : x ^^^ full ^^^ full = x := by rw [Nat.xor_assoc, Nat.xor_self, Nat.xor_zero]
theorem Of_loop (ls : List (List Int)) (hl : ∀ l ∈ ls, B l) (hn : ∀ l ∈ ls, l.length ≤ 140737488355328) (hm : ls.length ≤ 140737488355328) (d : Nat) : ∀ (s i : Nat), s < 4294967296 → i + d = ls.length →
    Ev (fun k => sum_Of.l0 k (s : Int) ls (ls.length : Int) (i : Int)) ((reg (s ^^^ full) (nt (ls.drop i).flatten) ^^^ full : Nat) : Int) := by
  induction d with
  | zero =>
    intro s i hs hi
    refine Ev.step (f := fun _ => some _) (fun k => ?_) (Ev.now _)
    rw [sum_Of.l0, if_neg (by omega), List.drop_of_length_le (by omega)]
    show some (s : Int) = some (((s ^^^ full ^^^ full : Nat)) : Int)
    rw [xff]
  | succ d ih =>
    intro s i hs hi
    have hlt : i < ls.length := by omega
    have hr : rd_L1 ls (i : Int) = ls[i] := by
      unfold rd_L1
      rw [Int.toNat_natCast, List.getD_eq_getElem?_getD, List.getElem?_eq_getElem hlt]
      rfl
    have hB := hl ls[i] (List.getElem_mem hlt)
    have h1 := More_ev s hs ls[i] hB (hn _ (List.getElem_mem hlt))
    have h2 := ih (reg (s ^^^ full) (nt ls[i]) ^^^ full) (i + 1) (sum_lt s hs hB) (by omega)
    refine Ev.step (f := fun k => (sum_More.f k (s : Int) ls[i]).bind fun t => sum_Of.l0 k t ls (ls.length : Int) ((i + 1 : Nat) : Int)) (fun k => ?_) ?_
    · rw [sum_Of.l0, if_pos (by omega), if_pos (by omega), if_pos (by omega), hr, show wrap64 ((i : Int) + 1) = ((i + 1 : Nat) : Int) by unfold wrap64; omega]
    · rw [List.drop_eq_getElem_cons hlt, List.flatten_cons, nt_append, reg_append]
      rw [xff] at h2
      exact Ev.bind h1 h2
/-- The sum of all parts. -/
theorem Of_ev (ls : List (List Int)) (hl : ∀ l ∈ ls, B l) (hn : ∀ l ∈ ls, l.length ≤ 140737488355328) (hm : ls.length ≤ 140737488355328) :
    Ev (fun k => sum_Of.f k ls) ((crc (nt ls.flatten) : Nat) : Int) := by
  have h := Of_loop ls hl hn hm ls.length 0 0 (by decide) (by omega)
  rw [List.drop_zero, Nat.zero_xor] at h
  exact h
theorem Of1_ev (l : List Int) (hl : B l) (hn : l.length ≤ 140737488355328) : Ev (fun k => sum_Of.f k [l]) ((crc (nt l) : Nat) : Int) := by
  have h := Of_ev [l] (by simp [hl]) (by simp [hn]) (by simp)
  rwa [List.flatten_singleton] at h
end Go.Proofs.Ytobogmcihnikeaa.Pure
