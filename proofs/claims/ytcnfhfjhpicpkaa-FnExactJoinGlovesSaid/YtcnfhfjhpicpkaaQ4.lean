/- What a law holds while it runs: boxes and rows in blocks of their own. -/
import Derived.Test.YtcnfhfjhpicpkaaPx0
namespace Go.Proofs.Ytcnfhfjhpicpkaa.P
open Go.RowKit Go.Proofs.YtcnfhfjhpicpkaaW.PrintWords Go.Proofs.YtcnfhfjhpicpkaaW.PrintLast Go.Proofs.YtcnfhfjhpicpkaaW.PrintMore
attribute [local go_sem] max2_int min2_int max_two min_two max_three min_three max_four min_four   -- for this text's walks alone
set_option linter.unusedVariables false
set_option linter.unusedSimpArgs false
/-! ### What a law holds: boxes and rows of numbers, each in a block of its own -/
def Th : Type := (Nat × Nat × Array Value) ⊕ (Value × List Int)
def tBox (g t : Nat) (cs : Array Value) : Th := Sum.inl (g, t, cs)
def tRow (v : Value) (xs : List Int) : Th := Sum.inr (v, xs)
def Th.blk : Th → Option Nat
  | Sum.inl (g, _, _) => some g
  | Sum.inr (v, _) => v.ownBlock
def Th.At (w : World) (base : Nat) : Th → Prop
  | Sum.inl (g, t, cs) => base ≤ g ∧ w.heap[g]? = some (.cells cs t (0, 0))
  | Sum.inr (v, xs) => Kd.R (Kd.int .i64) 3 w base (fun _ => True) v xs
def Ap (a b : Th) : Prop := ∀ k, a.blk = some k → b.blk = some k → False
theorem Ap.symm {a b : Th} (h : Ap a b) : Ap b a := fun k h1 h2 => h k h2 h1
theorem At_below {w w' : World} {b : Nat} {t : Th} (h : t.At w b) (hb : Below w.heap.size w w') : t.At w' b := by
  match t, h with
  | Sum.inl (g, t, cs), h => exact ⟨h.1, blk_below h.2 hb⟩
  | Sum.inr (v, xs), h => exact Kd.R_below (d := Kd.int .i64) h hb
theorem At_lt {w : World} {b : Nat} {t : Th} (h : t.At w b) : ∀ k, t.blk = some k → k < w.heap.size := by
  match t, h with
  | Sum.inl (g, t, cs), h => intro k hk; obtain rfl := Option.some.inj hk; exact blk_lt h.2
  | Sum.inr (v, xs), h => exact Kd.R_lt (d := Kd.int .i64) h
theorem At_base {w : World} {b : Nat} {t : Th} (h : t.At w b) : ∀ k, t.blk = some k → b ≤ k := by
  match t, h with
  | Sum.inl (g, t, cs), h => intro k hk; obtain rfl := Option.some.inj hk; exact h.1
  | Sum.inr (v, xs), h => exact Kd.R_base (d := Kd.int .i64) h
/-- What is elsewhere stays. -/
theorem At_keep {w w' : World} {b : Nat} {t : Th} (h : t.At w b) (hk : ∀ k, t.blk = some k → k < w.heap.size → w'.heap[k]? = w.heap[k]?) : t.At w' b := by
  match t, h with
  | Sum.inl (g, t, cs), h => exact ⟨h.1, (hk g rfl (blk_lt h.2)).trans h.2⟩
  | Sum.inr (v, xs), h => exact Kd.R_mono (Kd.R_step (Kd.R_tight (d := Kd.int .i64) rfl h) (fun k ho hlt => hk k ho.symm hlt)) (fun _ _ => trivial)
structure St (w0 w : World) (T : List Th) : Prop where
  below : Below w0.heap.size w0 w
  at_ : ∀ t, t ∈ T → t.At w w0.heap.size
  ap : T.Pairwise Ap
section
variable {w0 w w' : World} {T A B : List Th} {g t : Nat} {cs : Array Value} {v v0 v1 : Value} {xs x0 x1 y0 y1 : List Int} {x : Th}
theorem St.nil (w : World) : St w w [] := ⟨Below.refl _ _, fun t h => absurd h (by simp), List.Pairwise.nil⟩
theorem St.go (h : St w0 w T) (hb : Below w.heap.size w w') : St w0 w' T := ⟨below_step h.below hb, fun t ht => At_below (h.at_ t ht) hb, h.ap⟩
theorem St.drew (h : St w0 w T) : St w0 w.drew T := h.go (below_drew1 (Below.refl _ _))
theorem St.drewN (h : St w0 w T) (n : Nat) : St w0 (w.drewN n) T := h.go (pw_below_drewN (Below.refl _ _) n)
theorem St.cons (h : St w0 w T) (hb : Below w.heap.size w w') (ha : x.At w' w0.heap.size) (hn : ∀ k, x.blk = some k → w.heap.size ≤ k) : St w0 w' (x :: T) :=
  ⟨below_step h.below hb, fun t ht => by
    rcases List.mem_cons.1 ht with rfl | ht
    · exact ha
    · exact At_below (h.at_ t ht) hb, List.pairwise_cons.2 ⟨fun t ht k h1 h2 => by
    have a1 := hn k h1
    have a2 := At_lt (h.at_ t ht) k h2
    omega, h.ap⟩⟩
theorem St.box (h : St w0 w T) (hg : g = w.heap.size) (hc : w'.heap[g]? = some (.cells cs t (0, 0))) (hb : Below w.heap.size w w') : St w0 w' (tBox g t cs :: T) :=
  h.cons hb ⟨by rw [hg]; exact h.below.size, hc⟩ (fun k hk => by obtain rfl := Option.some.inj hk; omega)
theorem St.new2 (h : St w0 w T) (hb : Below w.heap.size w w') (h0 : Kd.R (Kd.int .i64) 3 w' w.heap.size (fun k_ => some k_ ≠ (v1 : Value).ownBlock) v0 x0) (h1 : Kd.R (Kd.int .i64) 3 w' w.heap.size (fun k_ => some k_ ≠ (v0 : Value).ownBlock) v1 x1) : St w0 w' (tRow v0 x0 :: tRow v1 x1 :: T) := by
  have hs := h.below.size
  have s1 : St w0 w' (tRow v1 x1 :: T) := h.cons hb (Kd.R_mono (Kd.R_lower h1 hs) (fun _ _ => trivial)) (Kd.R_base h1)
  have s0 : St w0 w' (tRow v0 x0 :: T) := h.cons hb (Kd.R_mono (Kd.R_lower h0 hs) (fun _ _ => trivial)) (Kd.R_base h0)
  refine ⟨s1.below, fun t ht => ?_, List.pairwise_cons.2 ⟨fun t ht => ?_, s1.ap⟩⟩
  · rcases List.mem_cons.1 ht with rfl | ht
    · exact s0.at_ _ List.mem_cons_self
    · exact s1.at_ t ht
  · rcases List.mem_cons.1 ht with rfl | ht
    · exact fun k h2 h3 => h0.1 k h2 (show some k = v1.ownBlock from h3.symm)
    · exact (List.pairwise_cons.1 s0.ap).1 t ht
theorem St.del (A : List Th) (h : St w0 w (A ++ x :: B)) : St w0 w (A ++ B) :=
  ⟨h.below, fun t ht => h.at_ t (by
    rcases List.mem_append.1 ht with ht | ht
    · exact List.mem_append.2 (.inl ht)
    · exact List.mem_append.2 (.inr (List.mem_cons_of_mem _ ht))), h.ap.sublist (List.Sublist.append_left (List.sublist_cons_self _ _) _)⟩
theorem St.bring (A : List Th) (h : St w0 w (A ++ x :: B)) : St w0 w (x :: (A ++ B)) :=
  ⟨h.below, fun t ht => h.at_ t (by
    rcases List.mem_cons.1 ht with rfl | ht
    · exact List.mem_append.2 (.inr List.mem_cons_self)
    rcases List.mem_append.1 ht with ht | ht
    · exact List.mem_append.2 (.inl ht)
    · exact List.mem_append.2 (.inr (List.mem_cons_of_mem _ ht))), List.Perm.pairwise (List.perm_middle) h.ap (fun h => h.symm)⟩
/-- What is beside x is apart from it. -/
theorem St.apart (A : List Th) (h : St w0 w (A ++ x :: B)) : ∀ t, t ∈ A ++ B → Ap x t := (List.pairwise_cons.1 (h.bring A).ap).1
theorem St.put (A : List Th) (h : St w0 w (A ++ tBox g t cs :: B)) (i : Nat) (u : Value) : St w0 (w.setCell ⟨g, i, none⟩ u) (A ++ tBox g t (cs.setIfInBounds i u) :: B) := by
  have hb : (tBox g t cs).At w w0.heap.size := h.at_ _ (List.mem_append.2 (.inr List.mem_cons_self))
  have hr : ∀ s, s ∈ A ++ B → s.At (w.setCell ⟨g, i, none⟩ u) w0.heap.size := fun s hs =>
    At_keep (h.at_ s (by
      rcases List.mem_append.1 hs with hs | hs
      · exact List.mem_append.2 (.inl hs)
      · exact List.mem_append.2 (.inr (List.mem_cons_of_mem _ hs)))) (fun k hk _ => Below.heap_setCell w _ u k (fun e => h.apart A s hs g rfl (by rw [hk, e])))
  refine ⟨below_set h.below hb.1, fun s hs => ?_, ?_⟩
  · rcases List.mem_append.1 hs with hs | hs
    · exact hr s (List.mem_append.2 (.inl hs))
    · rcases List.mem_cons.1 hs with rfl | hs
      · exact ⟨hb.1, blk_set hb.2 i u⟩
      · exact hr s (List.mem_append.2 (.inr hs))
  · have hp := (h.bring A).ap
    have hp2 : (tBox g t (cs.setIfInBounds i u) :: (A ++ B)).Pairwise Ap := List.pairwise_cons.2 ⟨fun s hs => (List.pairwise_cons.1 hp).1 s hs, (List.pairwise_cons.1 hp).2⟩
    exact List.Perm.pairwise (List.perm_middle.symm) hp2 (fun h => h.symm)
/-- Two rows are written. -/
theorem St.mark (A : List Th) (h : St w0 w (A ++ tRow v0 x0 :: tRow v1 x1 :: B)) {o0 o1 : Nat → Prop} (hB : Below w0.heap.size w0 w') (hk : Kept w w' (fun k => some k = v0.ownBlock ∨ some k = v1.ownBlock))
    (h0 : Kd.R (Kd.int .i64) 3 w' w0.heap.size o0 v0 y0) (h1 : Kd.R (Kd.int .i64) 3 w' w0.heap.size o1 v1 y1) : St w0 w' (A ++ tRow v0 y0 :: tRow v1 y1 :: B) := by
  have a0 := h.apart A
  have a1 : ∀ t, t ∈ (A ++ [tRow v0 x0]) ++ B → Ap (tRow v1 x1) t := by
    have : St w0 w ((A ++ [tRow v0 x0]) ++ tRow v1 x1 :: B) := by rw [List.append_assoc]; exact h
    exact this.apart _
  have keep : ∀ s, s ∈ A ++ B → s.At w' w0.heap.size := fun s hs => by
    have hs' : s ∈ A ++ tRow v0 x0 :: tRow v1 x1 :: B := by
      rcases List.mem_append.1 hs with hs | hs
      · exact List.mem_append.2 (.inl hs)
      · exact List.mem_append.2 (.inr (List.mem_cons_of_mem _ (List.mem_cons_of_mem _ hs)))
    refine At_keep (h.at_ s hs') (fun k hb hlt => hk.2 k hlt ?_)
    rintro (e | e)
    · refine a0 s ?_ k e.symm hb
      rcases List.mem_append.1 hs with hs | hs
      · exact List.mem_append.2 (.inl hs)
      · exact List.mem_append.2 (.inr (List.mem_cons_of_mem _ hs))
    · refine a1 s ?_ k e.symm hb
      rcases List.mem_append.1 hs with hs | hs
      · exact List.mem_append.2 (.inl (List.mem_append.2 (.inl hs)))
      · exact List.mem_append.2 (.inr hs)
  refine ⟨hB, fun s hs => ?_, ?_⟩
  · rcases List.mem_append.1 hs with hs | hs
    · exact keep s (List.mem_append.2 (.inl hs))
    rcases List.mem_cons.1 hs with rfl | hs
    · exact Kd.R_mono h0 (fun _ _ => trivial)
    rcases List.mem_cons.1 hs with rfl | hs
    · exact Kd.R_mono h1 (fun _ _ => trivial)
    · exact keep s (List.mem_append.2 (.inr hs))
  · have hp := h.ap
    rw [List.pairwise_append] at hp ⊢
    obtain ⟨p1, p2, p3⟩ := hp
    rw [List.pairwise_cons, List.pairwise_cons] at p2
    obtain ⟨q0, q1, q2⟩ := p2
    refine ⟨p1, List.pairwise_cons.2 ⟨fun s hs => ?_, List.pairwise_cons.2 ⟨q1, q2⟩⟩, fun a ha b hb => ?_⟩
    · rcases List.mem_cons.1 hs with rfl | hs
      · exact fun k e1 e2 => q0 (tRow v1 x1) List.mem_cons_self k e1 e2
      · exact q0 s (List.mem_cons_of_mem _ hs)
    · rcases List.mem_cons.1 hb with rfl | hb
      · exact fun k e1 e2 => p3 a ha (tRow v0 x0) List.mem_cons_self k e1 e2
      rcases List.mem_cons.1 hb with rfl | hb
      · exact fun k e1 e2 => p3 a ha (tRow v1 x1) (List.mem_cons_of_mem _ List.mem_cons_self) k e1 e2
      · exact p3 a ha b (List.mem_cons_of_mem _ (List.mem_cons_of_mem _ hb))
theorem St.is (h : St w0 w T) (i : Nat) (e : T[i]? = some x) : x.At w w0.heap.size := h.at_ _ (List.mem_of_getElem? e)
theorem St.row (h : St w0 w T) (i : Nat) (e : T[i]? = some (tRow v xs)) : Kd.R (Kd.int .i64) 3 w w0.heap.size (fun _ => True) v xs := h.is i e
theorem St.mine (h : St w0 w T) (i : Nat) (e : T[i]? = some (tRow v xs)) : Kd.R (Kd.int .i64) 3 w w0.heap.size (fun k => some k = v.ownBlock) v xs := Kd.R_tight rfl (h.is i e)
theorem St.reads (h : St w0 w T) (i : Nat) {a : Option Addr} {n c : Nat} (e : T[i]? = some (tRow (.slice a n c) xs)) : Kd.C (Kd.int .i64) w a xs.length xs ∧ n = xs.length ∧ xs.length ≤ c := by
  have h2 := Kd.R_reads' (h.row i e)
  exact ⟨h2.2.2, h2.1, by omega⟩
theorem St.blk (h : St w0 w T) (i : Nat) (e : T[i]? = some (tBox g t cs)) : w.heap[g]? = some (.cells cs t (0, 0)) := (h.is i e).2
theorem St.cell (h : St w0 w T) (i : Nat) (e : T[i]? = some (tBox g t cs)) (j : Nat) {u : Value} (hu : cs[j]? = some u) : w.cell? ⟨g, j, none⟩ = some u := (blk_cell (h.blk i e) j).trans hu
theorem St.open_ (h : St w0 w T) (i : Nat) (e : T[i]? = some (tBox g t cs)) (j : Nat) : w.frozen? ⟨g, j, none⟩ = false := blk_frozen (h.blk i e) j
theorem St.two (A : List Th) (h : St w0 w (A ++ tRow v0 x0 :: tRow v1 x1 :: B)) : ∀ k, some k = v0.ownBlock → ¬ some k = v1.ownBlock := fun k h1 h2 => by
  have hp := (List.pairwise_append.1 h.ap).2.1
  exact (List.pairwise_cons.1 hp).1 _ List.mem_cons_self k h1.symm h2.symm
theorem St.came {n : Nat} {a : Option Addr} (h : St w0 w T) (hc : Kd.C (Kd.int .i64) w0 a n xs) : Kd.C (Kd.int .i64) w a n xs := Kd.C_below hc h.below
end
end Go.Proofs.Ytcnfhfjhpicpkaa.P
