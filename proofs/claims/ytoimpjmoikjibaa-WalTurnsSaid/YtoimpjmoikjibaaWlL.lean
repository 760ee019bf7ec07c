/- A log in a law: what it and its dock may reach lies behind the law's beginning; a dock with one file. -/
import Derived.Test.YtoimpjmoikjibaaWlS
import Derived.Test.YtoimpjmoikjibaaDkL
namespace Go.Proofs.Ytoimpjmoikjibaa.Wl
open Go Go.RowKit Go.Proofs.Ytoimpjmoikjibaa.IMap Go.Proofs.Ytoimpjmoikjibaa.Pure Go.Proofs.Ytoimpjmoikjibaa.P Go.Proofs.Ytoimpjmoikjibaa.Dk Go.Proofs.YtoimpjmoikjibaaW.PrintWords Go.Proofs.YtoimpjmoikjibaaW.PrintLast Go.Proofs.YtoimpjmoikjibaaW.PrintMore
set_option linter.unusedVariables false
set_option linter.unusedSimpArgs false
def LL (w0 w : World) (g l : Nat) (s : DS) (t : WS) : Prop := ∃ T, Lg w g l T s t ∧ (∀ k, T k → w0.heap.size ≤ k) ∧ Below w0.heap.size w0 w
def LDid (w0 : World) (g l : Nat) (r : Int × DS × WS) (e : Ending) (w' : World) : Prop := e = .returned (.int .i64 r.1) ∧ LL w0 w' g l r.2.1 r.2.2
section
variable {w0 w w1 : World} {g l : Nat} {s s1 : DS} {t t1 : WS}
theorem LL.from (h : LL w0 w g l s t) : Below w0.heap.size w0 w := by obtain ⟨T, _, _, h3⟩ := h; exact h3
theorem LL.turn {T : Nat → Prop} (h2 : ∀ k, T k → w0.heap.size ≤ k) (h3 : Below w0.heap.size w0 w) (hl : Lg w1 g l (Fr T w w1) s1 t1) (hc : Chg T w w1) : LL w0 w1 g l s1 t1 :=
  ⟨_, hl, fun k hk => by
    rcases hk with hk | hk
    · exact h2 k hk
    · have := h3.size; omega, hc.below h3 h3.size h2⟩
theorem LL.below (h : LL w0 w g l s t) (hb : Below w.heap.size w w1) : LL w0 w1 g l s t := by
  obtain ⟨T, h1, h2, h3⟩ := h
  have h4 := h1.below hb
  exact LL.turn h2 h3 h4.1 h4.2
theorem LL.lw (h : LL w0 w g l s t) : LW w0 w g s := by
  obtain ⟨T, h1, h2, h3⟩ := h
  exact ⟨T, h1.dk, fun k hk => ⟨h2 k hk, h1.bound k hk⟩, h3⟩
theorem LL.arg {T : Nat → Prop} (h2 : ∀ k, T k → w0.heap.size ≤ k) (h3 : Below w0.heap.size w0 w) {A : Option Addr} {c : Nat} {b : List Int} (hb : Kd.C kB w0 A b.length b) (hc : b.length ≤ c) : Arg w T A c b :=
  ⟨fun k => k < w0.heap.size, Kd.V_below (V_of_C hb hc 0) h3, fun k hk ht => by have := h2 k ht; omega⟩
theorem Open_L (h : LW w0 w g s) (hBD : BD s) {r : Int × DS × WS} (hr : openS s = r) (h0 : r.1 = 0) : Calls Try.prog 32 #[.pointer (some ⟨g, 0, none⟩)] w fun e w' => ∃ l, e = .returned (.tuple #[.pointer (some ⟨l, 0, none⟩), .int .i64 0]) ∧ LL w0 w' g l r.2.1 r.2.2 := by
  subst hr
  obtain ⟨S, h1, h2, h3⟩ := h
  refine (Open_T h1 (fun k hk => (h2 k hk).2) hBD).mono fun e w' ⟨hc, hh⟩ => ?_
  rcases hh with ⟨_, l, he, hl⟩ | ⟨hn, _⟩
  · exact ⟨l, he, LL.turn (fun k hk => (h2 k hk).1) h3 hl hc⟩
  · exact absurd h0 hn
theorem App_L (h : LL w0 w g l s t) (A : Option Addr) (c : Nat) (b : List Int) (hb : Kd.C kB w0 A b.length b) (hcc : b.length ≤ c) (hB : B b) (hm : b.length ≤ 100000000) (hrl : t.recs.length ≤ 1000000) (hsz : 0 ≤ t.size ∧ t.size ≤ 1000000000) {r : Int × DS × WS} (hr : appL s t b = r) :
    Calls Try.prog 39 #[.pointer (some ⟨l, 0, none⟩), .slice A b.length c] w (LDid w0 g l r) := by
  subst hr
  obtain ⟨T, h1, h2, h3⟩ := h
  exact (lapp_T h1 A c b (LL.arg h2 h3 hb hcc) hB hm hrl hsz).mono fun e w' ⟨he, hl, hc⟩ => ⟨he, LL.turn h2 h3 hl hc⟩
theorem Rot_L (h : LL w0 w g l s t) (A : Option Addr) (c : Nat) (b : List Int) (hb : Kd.C kB w0 A b.length b) (hcc : b.length ≤ c) (hB : B b) (hm : b.length ≤ 100000000) (hn : -10 ≤ t.name ∧ t.name ≤ 10000000) {r : Int × DS × WS} (hr : rotL s t b = r) :
    Calls Try.prog 40 #[.pointer (some ⟨l, 0, none⟩), .slice A b.length c] w (LDid w0 g l r) := by
  subst hr
  obtain ⟨T, h1, h2, h3⟩ := h
  exact (lrot_T h1 A c b (LL.arg h2 h3 hb hcc) hB hm hn).mono fun e w' ⟨he, hl, hc⟩ => ⟨he, LL.turn h2 h3 hl hc⟩
theorem Syn_L (h : LL w0 w g l s t) {r : Int × DS × WS} (hr : synL s t = r) :
    Calls Try.prog 42 #[.pointer (some ⟨l, 0, none⟩)] w (LDid w0 g l r) := by
  subst hr
  obtain ⟨T, h1, h2, h3⟩ := h
  exact (lsync_T h1).mono fun e w' ⟨he, hl, hc⟩ => ⟨he, LL.turn h2 h3 hl hc⟩
theorem Name_L (h : LL w0 w g l s t) {n : Int} (hn : t.name = n) : Calls Try.prog 33 #[.pointer (some ⟨l, 0, none⟩)] w fun e w' => e = .returned (.int .i64 n) ∧ w = w' := by
  subst hn
  obtain ⟨T, h1, _, _⟩ := h
  exact Name_T h1
theorem LSize_L (h : LL w0 w g l s t) {n : Int} (hn : t.size = n) : Calls Try.prog 34 #[.pointer (some ⟨l, 0, none⟩)] w fun e w' => e = .returned (.int .i64 n) ∧ w = w' := by
  subst hn
  obtain ⟨T, h1, _, _⟩ := h
  exact LSize_T h1
theorem Base_L (h : LL w0 w g l s t) {b : List Int} (hb : t.base = b) (hm : b.length ≤ 1000000000) : Calls Try.prog 36 #[.pointer (some ⟨l, 0, none⟩)] w fun e w' => ∃ v, e = .returned v ∧ Kd.R kB 5 w' w.heap.size (fun _ => True) v b ∧ Below w.heap.size w w' := by
  subst hb
  obtain ⟨T, h1, _, _⟩ := h
  exact Base_T h1 hm
theorem Records_L (h : LL w0 w g l s t) {rs : List (List Int)} (hb : t.recs = rs) (hm : ∀ r ∈ rs, r.length ≤ 1000000000) (hrl : rs.length ≤ 1000000) : Calls Try.prog 38 #[.pointer (some ⟨l, 0, none⟩)] w fun e w' => ∃ v, e = .returned v ∧ Kd.N kBs 22 w' w.heap.size (fun k => w.heap.size ≤ k) v rs ∧ Below w.heap.size w w' := by
  subst hb
  obtain ⟨T, h1, _, _⟩ := h
  exact Records_T h1 hm hrl
end
/-- A constant as an argument. -/
theorem Arg.lit {w : World} {T : Nat → Prop} (hT : ∀ k, T k → k < w.heap.size) (b : List Int) (m : Nat × Nat) (c : Nat) (hb : b.length ≤ 100000000) (hc : b.length ≤ c) : Arg (w.alloc (.cells (b.map (Value.int .u8)).toArray 5 m)) T (some ⟨w.heap.size, 0, none⟩) c b :=
  have hC := lit_Cm w .u8 5 m b (by omega)
  ⟨fun k => k = w.heap.size, Kd.V_mk hc (fun W' hW => by
    by_cases h0 : b.length = 0
    · exact ⟨hC.1, hC.2.1, fun hn => by omega⟩
    · exact C_block hC (hW _ rfl (by rw [World.size_alloc]; exact Nat.lt_succ_self _))), fun k hk ht => by have := hT k ht; omega⟩
theorem App_litL {w0 w : World} {g l : Nat} {s : DS} {t : WS} (h : LL w0 w g l s t) (b : List Int) (m : Nat × Nat) (c : Nat) (hc : b.length ≤ c) (hB : B b) (hm : b.length ≤ 100000000) (hrl : t.recs.length ≤ 1000000) (hsz : 0 ≤ t.size ∧ t.size ≤ 1000000000) {r : Int × DS × WS} (hr : appL s t b = r) :
    Calls Try.prog 39 #[.pointer (some ⟨l, 0, none⟩), .slice (some ⟨w.heap.size, 0, none⟩) b.length c] (w.alloc (.cells (b.map (Value.int .u8)).toArray 5 m)) (LDid w0 g l r) := by
  subst hr
  obtain ⟨T, h1, h2, h3⟩ := h
  have hbx := below_alloc (Below.refl w.heap.size w) (Obj.cells (b.map (Value.int .u8)).toArray 5 m)
  obtain ⟨hl1, hc1⟩ := h1.below hbx
  have h2' : ∀ k, Fr T w (w.alloc (.cells (b.map (Value.int .u8)).toArray 5 m)) k → w0.heap.size ≤ k := fun k hk => by
    rcases hk with hk | hk
    · exact h2 k hk
    · have := h3.size; omega
  have hA := Arg.lit (T := T) h1.bound b m c hm hc
  have hl2 : Lg (w.alloc (.cells (b.map (Value.int .u8)).toArray 5 m)) g l T s t := by
    obtain ⟨S, U, vb, vr, hI, hS, hU, hl, hT⟩ := h1
    exact ⟨S, U, vb, vr, hI.below hbx, hS, hU, hl, fun k hk => Nat.lt_of_lt_of_le (hT k hk) hbx.size⟩
  exact (lapp_T hl2 _ c b hA hB hm hrl hsz).mono fun e w' ⟨he, hl, hcc⟩ => ⟨he, LL.turn h2 (below_step h3 hbx) hl hcc⟩
/-- An element of a row of rows that a law was given. -/
theorem rows_at {w : World} {A : Option Addr} {xs : List (List Int)} (h : Kd.C kBs w A xs.length xs) (i : Nat) (x : List Int) (hx : xs[i]? = some x) :
    ∃ ad A1 c1, A = some ad ∧ (∀ w1, Below w.heap.size w w1 → w1.cell? (ad.add i) = some (.slice A1 x.length c1)) ∧ Kd.C kB w A1 x.length x ∧ x.length ≤ c1 := by
  obtain ⟨ad, e, hc⟩ := h.2.2 (by cases xs with | nil => simp at hx | cons y r => simp)
  obtain ⟨cs, h1, h2, h3⟩ := hc i _ hx
  obtain ⟨A1, c1, rfl, hcd, hd⟩ := h2
  have f0 : w.cell? (ad.add i) = some (.slice A1 x.length c1) := by
    have := h3 0 _ rfl
    rw [show i * kBs.sz + 0 = i from by show i * 1 + 0 = i; omega] at this
    exact this
  exact ⟨ad, A1, c1, e, fun w1 hb => pw_cell_below hb f0, hd, hcd⟩
/-! A dock with one file. -/
def ws (k : Int) (n : Nat) (b : List Int) (rs : List (List Int)) : WS := ⟨k, (n : Int), b, rs, false⟩
theorem one_size (k : Int) (b : List Int) (sf : Nat) (c : Int) : size (Dk.one k b sf c).M = b.length := size_one k b sf c
theorem BD_new (c : Int) : BD (new c) := fun p hp => by cases hp
theorem open_new (c : Int) (h : 9 ≤ c) : openS (new c) = (0, Dk.one 0 (frame [0]) 9 c, ws 0 9 [] []) := by
  have e1 : findW (new c).M = none := rfl
  have hl : (frame [0]).length = 9 := by rw [frame_len]; rfl
  have e2 : app (new c) 0 (frame [0]) = (0, Dk.one 0 (frame [0]) 0 c) := app_new 0 _ c (by omega) (by omega) (by omega)
  have e3 : syn (Dk.one 0 (frame [0]) 0 c) 0 = (0, Dk.one 0 (frame [0]) 9 c) := by rw [syn_one, hl]
  have e4 : beginS (new c) ws0 0 [] = (0, Dk.one 0 (frame [0]) 9 c, ws 0 9 [] []) := by
    unfold beginS
    rw [if_neg (by decide), e2, if_neg (fun h => h rfl), e3, if_neg (fun h => h rfl)]
    rfl
  unfold openS
  rw [if_neg (by simp [new]), e1]
  have e5 : rmAll (foundT ws0 none).name (keys (new c).M) (new c) = (0, new c) := rfl
  rw [e5, if_neg (fun h => h rfl)]
  unfold openE
  rw [if_pos (show (foundT ws0 none).name < 0 from by decide)]
  exact e4
theorem app_ws (k : Int) (b : List Int) (sf : Nat) (c : Int) (n : Nat) (bs : List Int) (rs : List (List Int)) (r : List Int) (h0 : 0 ≤ k) (h1 : k ≤ 999999) (hr : r.length ≤ 65535) (hb : (b.length : Int) + (r.length + 9) ≤ c) :
    appL (Dk.one k b sf c) (ws k n bs rs) r = (0, Dk.one k (b ++ frame (1 :: r)) sf c, ws k (n + (r.length + 9)) bs (rs ++ [r])) := by
  have hl : (frame (1 :: r)).length = r.length + 9 := by rw [frame_len]; rfl
  unfold appL
  have e : app (Dk.one k b sf c) (ws k n bs rs).name (frame (1 :: r)) = (0, Dk.one k (b ++ frame (1 :: r)) sf c) := app_one k b _ sf c h0 h1 (by rw [hl]; omega)
  rw [if_neg (show ¬ ((ws k n bs rs).closed = true) from Bool.false_ne_true), if_neg (by omega), e, if_neg (fun h => h rfl)]
  show (_, _, _) = _
  unfold ws
  congr 3
def two (k : Int) (b : List Int) (sf : Nat) (b2 : List Int) (sf2 : Nat) (c : Int) : DS := ⟨[(k, (b, sf)), (k + 1, (b2, sf2))], c, -1, false⟩
theorem get_two (k : Int) (b : List Int) (sf : Nat) (x : List Int × Nat) (c : Int) : get [(k, (b, sf)), (k + 1, x)] (k + 1) = some x := by
  rw [get_cons, if_neg (by show ¬ (k = k + 1); omega), get_cons, if_pos rfl]
theorem app_two (k : Int) (b : List Int) (sf : Nat) (m : List Int) (c : Int) (h0 : 0 ≤ k) (h1 : k < 999999) (hb : (b.length : Int) + m.length ≤ c) : app (Dk.one k b sf c) (k + 1) m = (0, two k b sf m 0 c) := by
  have eg : get (Dk.one k b sf c).M (k + 1) = none := by
    unfold Dk.one
    rw [get_cons, if_neg (by show ¬ (k = k + 1); omega), get_nil]
  have ei : ∀ x, ins (Dk.one k b sf c).M (k + 1) x = [(k, (b, sf)), (k + 1, x)] := fun x => by
    unfold Dk.one
    rw [ins, if_neg (by show ¬ (k + 1 < k); omega), if_neg (by show ¬ (k = k + 1); omega), ins]
  unfold app
  rw [if_neg (by simp [Dk.one]), if_neg (by omega), if_neg (by rw [size_one]; show ¬ c < _; omega)]
  rw [eg, ei]
  rfl
theorem syn_two (k : Int) (b : List Int) (sf : Nat) (m : List Int) (c : Int) : syn (two k b sf m 0 c) (k + 1) = (0, two k b sf m m.length c) := by
  have hf : findE (two k b sf m 0 c) (k + 1) = 0 := by
    unfold findE two
    rw [if_neg (by simp), get_two (c := c)]
    rfl
  have ei : ∀ x y, ins [(k, (b, sf)), (k + 1, x)] (k + 1) y = [(k, (b, sf)), (k + 1, y)] := fun x y => by
    rw [ins, if_neg (by show ¬ (k + 1 < k); omega), if_neg (by show ¬ (k = k + 1); omega), ins, if_neg (by show ¬ (k + 1 < k + 1); omega), if_pos rfl]
  unfold syn
  rw [hf, if_neg (by decide)]
  have e : stepS (two k b sf m 0 c) = two k b sf m 0 c := rfl
  rw [e, if_neg (by simp [two])]
  simp only [two, get_two (c := c), Option.getD_some, ei]
theorem rmv_two (k : Int) (b : List Int) (sf : Nat) (m : List Int) (n : Nat) (c : Int) : rmv (two k b sf m n c) k = (0, Dk.one (k + 1) m n c) := by
  have hf : findE (two k b sf m n c) k = 0 := by
    unfold findE two
    rw [if_neg (by simp), get_cons, if_pos rfl]
    rfl
  unfold rmv
  rw [hf, if_neg (by decide)]
  have e : stepS (two k b sf m n c) = two k b sf m n c := rfl
  rw [e, if_neg (by simp [two])]
  simp only [two, rem, Dk.one]
  rw [List.filter_cons_of_neg (by simp), List.filter_cons_of_pos (by simp; omega)]
  rfl
theorem rot_ws (k : Int) (b : List Int) (sf : Nat) (c : Int) (n : Nat) (bs : List Int) (rs : List (List Int)) (r : List Int) (h0 : 0 ≤ k) (h1 : k < 999999) (hr : r.length ≤ 65535) (hb : (b.length : Int) + (r.length + 9) ≤ c) :
    rotL (Dk.one k b sf c) (ws k n bs rs) r = (0, Dk.one (k + 1) (frame (0 :: r)) (r.length + 9) c, ws (k + 1) (r.length + 9) r []) := by
  have hl : (frame (0 :: r)).length = r.length + 9 := by rw [frame_len]; rfl
  have e2 := app_two k b sf (frame (0 :: r)) c h0 h1 (by rw [hl]; omega)
  have e3 := syn_two k b sf (frame (0 :: r)) c
  rw [hl] at e3
  have e4 := rmv_two k b sf (frame (0 :: r)) (r.length + 9) c
  have e5 : beginS (Dk.one k b sf c) (ws k n bs rs) (k + 1) r = (0, two k b sf (frame (0 :: r)) (r.length + 9) c, ws (k + 1) (r.length + 9) r []) := by
    unfold beginS
    rw [if_neg (by omega), e2, if_neg (fun h => h rfl), e3, if_neg (fun h => h rfl)]
    rfl
  unfold rotL
  have hn : (ws k n bs rs).name = k := rfl
  rw [if_neg (show ¬ ((ws k n bs rs).closed = true) from Bool.false_ne_true), hn, e5, if_neg (fun h => h rfl)]
  dsimp only
  rw [e4]
  rw [told_zero]
end Go.Proofs.Ytoimpjmoikjibaa.Wl
namespace Go.Proofs.Ytoimpjmoikjibaa.Wl
open Go Go.RowKit Go.Proofs.Ytoimpjmoikjibaa.IMap Go.Proofs.Ytoimpjmoikjibaa.Pure Go.Proofs.Ytoimpjmoikjibaa.P Go.Proofs.Ytoimpjmoikjibaa.Dk Go.Proofs.YtoimpjmoikjibaaW.PrintWords Go.Proofs.YtoimpjmoikjibaaW.PrintLast Go.Proofs.YtoimpjmoikjibaaW.PrintMore
set_option linter.unusedVariables false
set_option linter.unusedSimpArgs false
theorem refFrame_T (a : Int) (A : Option Addr) (c : Nat) (b : List Int) (w : World) (hr : Kd.C kB w A b.length b) (hc : b.length ≤ c) (hB : B b) (hm : b.length ≤ 100000000000) :
    Calls Try.prog 43 #[.int .i64 a, .slice A b.length c] w fun e w' => ∃ v, e = .returned v ∧ Kd.R kB 5 w' w.heap.size (fun _ => True) v (frame (a % 256 :: b)) ∧ Below w.heap.size w w' := by
  obtain ⟨k, hk⟩ := refFrame_ev a b hB (by omega)
  exact slipwayref14_Frame.calls k a A c b _ w hr hc (hk k (Nat.le_refl _))
theorem same_T (A0 A1 : Option Addr) (c0 c1 : Nat) (l0 l1 : List Int) (w : World) (h0 : Kd.C kB w A0 l0.length l0) (hc0 : l0.length ≤ c0) (h1 : Kd.C kB w A1 l1.length l1) (hc1 : l1.length ≤ c1) (hm : l0.length ≤ 100000000000) :
    Calls Try.prog 35 #[.slice A0 l0.length c0, .slice A1 l1.length c1] w fun e w' => e = .returned (.bool (decide (l0 = l1))) ∧ Below w.heap.size w w' := by
  obtain ⟨k, hk⟩ := Same_ev l0 l1 (by omega)
  exact (slipwayref11_Same.calls k A0 c0 l0 A1 c1 l1 _ w h0 hc0 h1 hc1 (hk k (Nat.le_refl _))).mono fun e w' ⟨he, hd⟩ => ⟨he, hd.below⟩
theorem sames_T (A0 A1 : Option Addr) (c0 c1 : Nat) (l0 l1 : List (List Int)) (w : World) (h0 : Kd.C kBs w A0 l0.length l0) (hc0 : l0.length ≤ c0) (h1 : Kd.C kBs w A1 l1.length l1) (hc1 : l1.length ≤ c1) (hm : l0.length ≤ 1000000) (hx : ∀ x ∈ l0, x.length ≤ 1000000000) :
    Calls Try.prog 37 #[.slice A0 l0.length c0, .slice A1 l1.length c1] w fun e w' => e = .returned (.bool (decide (l0 = l1))) ∧ Below w.heap.size w w' := by
  obtain ⟨k, hk⟩ := refSame_ev l0 l1 (by omega) (fun x hx' => by have := hx x hx'; omega)
  exact (slipwayref14_Same.calls k A0 c0 l0 A1 c1 l1 _ w h0 hc0 h1 hc1 (hk k (Nat.le_refl _))).mono fun e w' ⟨he, hd⟩ => ⟨he, hd.below⟩
theorem join_T (A0 A1 : Option Addr) (c0 c1 : Nat) (l0 l1 : List Int) (w : World) (h0 : Kd.C kB w A0 l0.length l0) (hc0 : l0.length ≤ c0) (h1 : Kd.C kB w A1 l1.length l1) (hc1 : l1.length ≤ c1) (hm : l0.length + l1.length ≤ 100000000000) :
    Calls Try.prog 55 #[.slice A0 l0.length c0, .slice A1 l1.length c1] w fun e w' => ∃ v, e = .returned v ∧ Kd.R kB 5 w' w.heap.size (fun _ => True) v (l0 ++ l1) ∧ Below w.heap.size w w' :=
  slipwayref11_Join.calls A0 c0 l0 A1 c1 l1 _ w h0 hc0 h1 hc1 (Join_f l0 l1 (by omega))
theorem f0_len : (frame [0]).length = 9 := by rw [frame_len]; rfl
theorem f1_len : (frame [1, 97]).length = 10 := by rw [frame_len]; rfl
theorem B97 : B [97] := fun x h => by simp only [List.mem_singleton] at h; omega
theorem anchor_app : appL (Dk.one 0 (frame [0]) 9 100) (ws 0 9 [] []) [97] = (0, Dk.one 0 (frame [0] ++ frame [1, 97]) 9 100, ws 0 19 [] [[97]]) :=
  app_ws 0 _ 9 100 9 [] [] [97] (by omega) (by omega) (by decide) (by rw [f0_len]; decide)
set_option maxHeartbeats 8000000 in
set_option maxRecDepth 100000 in
theorem anchor_T (w : World) : Calls Try.prog 30 #[] w fun e w' => e = .returned (.bool true) ∧ Below w.heap.size w w' := by
  have K := Aside0.mk (New_L (w0 := w) 100 w (by omega) (by omega) (Below.refl _ _))
  have kc := fun (w : World) (C : Array Value) (n c : Nat) => Lib.run_convert_bytes_const (P := Try.prog) w 22 5 C n c Try.underlying22 Try.underlying5
  go_enter Try.func30, Try.ntmps30
  go_wp2_with (fail)
  refine K.out.mono ?_
  rintro e w1 ⟨g, rfl, h1⟩
  have K1 := Aside0.mk (Open_L h1 (BD_new 100) (open_new 100 (by omega)) rfl)
  clear h1 K
  go_wp2_with (fail)
  refine K1.out.mono ?_
  rintro e w2 ⟨l, rfl, h2⟩
  have h2 : LL w w2 g l (Dk.one 0 (frame [0]) 9 100) (ws 0 9 [] []) := h2
  have KS := Aside0.mk (LSize_L h2 (n := 9) rfl)
  have KN := Aside0.mk (Name_L h2 (n := 0) rfl)
  have KA := Aside0.mk (App_litL h2 [97] (1, 2) 1 (by decide) B97 (by decide) (by decide) (by decide) anchor_app)
  clear h2 K1
  go_wp2_with (fail)
  refine KS.out.mono ?_
  rintro e w3 ⟨rfl, rfl⟩
  clear KS
  go_wp2_with (fail)
  refine KN.out.mono ?_
  rintro e w3 ⟨rfl, rfl⟩
  clear KN
  go_wp2_with (fail)
  refine KA.out.mono ?_
  rintro e w3 ⟨rfl, h3⟩
  have h3 : LL w w3 g l (Dk.one 0 (frame [0] ++ frame [1, 97]) 9 100) (ws 0 19 [] [[97]]) := h3
  have K3 := Read_L h3.lw 0
  rw [findE_one, bytes_one] at K3
  have K3 := Aside0.mk K3
  have H3 := Aside0.mk h3
  clear h3 KA
  go_wp2_with (fail)
  refine K3.out.mono ?_
  rintro e w4 ⟨v, rfl, hv, _, hb⟩
  have H4 := Aside0.mk (H3.out.below hb)
  obtain ⟨A1, c1, rfl⟩ := Kd.R_slice hv
  have HV := Aside0.mk hv
  obtain ⟨n1, hn1⟩ : ∃ n, (frame [0] ++ frame [1, 97]).length = n := ⟨_, rfl⟩
  rw [hn1] at HV ⊢
  have HN1 := Aside0.mk hn1
  have K5 := Aside0.mk (refFrame_T 0 none 0 [] w4 (Kd.C_nil _ _) (Nat.le_refl _) B_nil (by decide))
  clear hv hb K3 H3 hn1
  go_wp2_with (fail)
  refine K5.out.mono ?_
  rintro e w5 ⟨v5, rfl, hv5, hb5⟩
  have hv5 : Kd.R kB 5 w5 w4.heap.size (fun _ => True) v5 (frame [0]) := hv5
  obtain ⟨A5, c5, rfl⟩ := Kd.R_slice hv5
  rw [f0_len] at hv5 ⊢
  have HV5 := Aside0.mk hv5
  have HB5 := Aside0.mk hb5
  have K6 := Aside0.mk (refFrame_T 1 (some ⟨w5.heap.size, 0, none⟩) 1 [97] (w5.alloc (.cells #[.int .u8 97] 5 (1, 2))) (lit_Cm w5 .u8 5 (1, 2) [97] (by decide)) (by decide) B97 (by decide))
  clear hv5 hb5 K5
  go_wp2_with (fail)
  refine K6.out.mono ?_
  rintro e w6 ⟨v6, rfl, hv6, hb6⟩
  have hv6 : Kd.R kB 5 w6 _ (fun _ => True) v6 (frame [1, 97]) := hv6
  obtain ⟨A6, c6, rfl⟩ := Kd.R_slice hv6
  rw [f1_len] at hv6 ⊢
  have HB6 := Aside0.mk ((below_alloc (Below.refl w5.heap.size w5) (.cells #[.int .u8 97] 5 (1, 2))).trans (hb6.mono (by rw [World.size_alloc]; exact Nat.le_succ _)))
  have r5 := Kd.R_reads' (Kd.R_below HV5.out HB6.out)
  have r6 := Kd.R_reads' hv6
  have K7 := join_T A5 A6 c5 c6 (frame [0]) (frame [1, 97]) w6 (by rw [← r5.1]; exact r5.2.2) (by rw [← r5.1]; exact r5.2.1) (by rw [← r6.1]; exact r6.2.2) (by rw [← r6.1]; exact r6.2.1) (by rw [f0_len, f1_len]; decide)
  rw [f0_len, f1_len] at K7
  have K7 := Aside0.mk K7
  clear hv6 hb6 K6 r5 r6
  go_wp2_with (fail)
  refine K7.out.mono ?_
  rintro e w7 ⟨v7, rfl, hv7, hb7⟩
  obtain ⟨A7, c7, rfl⟩ := Kd.R_slice hv7
  rw [HN1.out] at hv7 ⊢
  have hb47 : Below w4.heap.size w4 w7 := below_step (below_step HB5.out HB6.out) hb7
  have HB47 := Aside0.mk hb47
  have r4 := Kd.R_reads' (Kd.R_below HV.out hb47)
  have r7 := Kd.R_reads' hv7
  have K8 := same_T A1 A7 c1 c7 (frame [0] ++ frame [1, 97]) (frame [0] ++ frame [1, 97]) w7 r4.2.2 (by rw [← r4.1]; exact r4.2.1) r7.2.2 (by rw [← r7.1]; exact r7.2.1) (by rw [HN1.out, ← HN1.out, List.length_append, f0_len, f1_len]; decide)
  rw [HN1.out, decide_eq_true (rfl : frame [0] ++ frame [1, 97] = frame [0] ++ frame [1, 97])] at K8
  have K8 := Aside0.mk K8
  clear hv7 hb7 K7 r4 r7 hb47
  go_wp2_with (fail)
  refine K8.out.mono ?_
  rintro e w8 ⟨rfl, hb8⟩
  have H8 := Aside0.mk (H4.out.below (below_step HB47.out hb8))
  have K9 := Aside0.mk (Records_L H8.out (rs := [[97]]) rfl (fun r hr => by simp only [List.mem_singleton] at hr; rw [hr]; decide) (by decide))
  clear hb8 K8
  go_wp2_with (fail)
  refine K9.out.mono ?_
  rintro e w9 ⟨v9, rfl, hv9, hb9⟩
  obtain ⟨A9, c9, rfl⟩ := Kd.N_slice hv9
  have H9 := Aside0.mk (H8.out.below hb9)
  clear hv9 hb9 K9
  go_wp2
  go_ret
  exact ⟨rfl, H9.out.from⟩
end Go.Proofs.Ytoimpjmoikjibaa.Wl
