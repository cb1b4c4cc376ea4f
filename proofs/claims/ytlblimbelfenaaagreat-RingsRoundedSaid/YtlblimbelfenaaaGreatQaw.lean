/- Rings of closed contours: rounded points, no point twice in a row, twice the area; plain. -/
import Derived.Test.YtlblimbelfenaaaGreatQap
import Derived.Test.YtlblimbelfenaaaGreatQav
set_option linter.unusedSimpArgs false
set_option linter.unusedVariables false
/- Plain law: contours: rows of segments that follow one another; two ways to find them agree. -/
namespace Go.Proofs.YtlblimbelfenaaaGreat
abbrev Nxt := Sid2 → Option Sid2
def nxt : List Seg5 → Nxt
 | [], _ => none
 | g :: S, s => if g.fr = s then some g.to else nxt S s
def folB (S : List Seg5) (s : Sid2) : Bool := (S.map (·.to)).contains s
inductive Ch (N : Nxt) (f : Sid2) : Sid2 → List Sid2 → Bool → Prop
 | stop {a : Sid2} : N a = none → Ch N f a [] false
 | back {a : Sid2} : N a = some f → Ch N f a [] true
 | go {a b : Sid2} {l : List Sid2} {c : Bool} : N a = some b → b ≠ f → Ch N f b l c → Ch N f a (b :: l) c
theorem Ch.det {N : Nxt} {f a : Sid2} {l : List Sid2} {c : Bool} (h : Ch N f a l c) : ∀ {l' : List Sid2} {c' : Bool}, Ch N f a l' c' → l = l' ∧ c = c' := by
 induction h with
 | stop h =>
  intro l' c' h'
  cases h' with
  | stop => exact ⟨rfl, rfl⟩
  | back h2 => rw [h] at h2; cases h2
  | go h2 => rw [h] at h2; cases h2
 | back h =>
  intro l' c' h'
  cases h' with
  | stop h2 => rw [h] at h2; cases h2
  | back h2 => exact ⟨rfl, rfl⟩
  | go h2 h3 => rw [h] at h2; injection h2 with h2; exact absurd h2.symm h3
 | go h hb _ ih =>
  intro l' c' h'
  cases h' with
  | stop h2 => rw [h] at h2; cases h2
  | back h2 => rw [h] at h2; injection h2 with h2; exact absurd h2 hb
  | go h2 h3 h4 =>
   rw [h] at h2; injection h2 with h2; subst h2
   obtain ⟨e1, e2⟩ := ih h4
   exact ⟨by rw [e1], e2⟩
inductive Rv (N : Nxt) (f : Sid2) : List Sid2 → Prop
 | one : Rv N f [f]
 | more {a b : Sid2} {l : List Sid2} : Rv N f (a :: l) → N a = some b → b ≠ f → Rv N f (b :: a :: l)
theorem Rv.pred {N : Nxt} {f : Sid2} {l : List Sid2} (h : Rv N f l) : ∀ a t, l = a :: t → ∀ b ∈ l, b ≠ f → ∃ p ∈ t, N p = some b := by
 induction h with
 | one =>
  intro a t e b hb hne
  rw [List.mem_singleton] at hb
  exact absurd hb hne
 | more h hN hne ih =>
  rename_i a b l
  intro a' t e c hc hcn
  injection e with e1 e2
  subst e1; subst e2
  rcases List.mem_cons.1 hc with rfl | hc
  ·exact ⟨a, List.mem_cons_self, hN⟩
  ·obtain ⟨p, hp, hpe⟩ := ih a l rfl c hc hcn
   exact ⟨p, List.mem_cons_of_mem _ hp, hpe⟩
theorem Rv.nodup {N : Nxt} {f : Sid2} (inj : ∀ a b c, N a = some c → N b = some c → a = b) {l : List Sid2} (h : Rv N f l) : l.Nodup := by
 induction h with
 | one => simp
 | more h hN hne ih =>
  rename_i a b l
  refine List.nodup_cons.2 ⟨fun hm => ?_, ih⟩
  obtain ⟨p, hp, hpe⟩ := h.pred a l rfl b hm hne
  have := inj _ _ _ hpe hN
  subst this
  exact (List.nodup_cons.1 ih).1 hp
theorem Rv.some_ {N : Nxt} {f : Sid2} {l : List Sid2} (h : Rv N f l) : ∀ a t, l = a :: t → ∀ x ∈ t, (N x).isSome = true := by
 induction h with
 | one => intro a t e x hx; injection e with _ e; rw [← e] at hx; cases hx
 | more h hN hne ih =>
  rename_i a b l
  intro a' t e x hx
  injection e with e1 e2
  subst e2
  rcases List.mem_cons.1 hx with rfl | hx
  ·rw [hN]; rfl
  ·exact ih a l rfl x hx
theorem Rv.mem {N : Nxt} {f : Sid2} {l : List Sid2} (h : Rv N f l) : f ∈ l := by
 induction h with
 | one => simp
 | more _ _ _ ih => exact List.mem_cons_of_mem _ ih
theorem Rv.join {N : Nxt} {f : Sid2} {l : List Sid2} (h : Rv N f l) : ∀ a t, l = a :: t → ∀ r c, Ch N f a r c → ∃ r', l.reverse ++ r = f :: r' ∧ Ch N f f r' c := by
 induction h with
 | one => intro a t e r c hc; injection e with e _; subst e; exact ⟨r, rfl, hc⟩
 | more h hN hne ih =>
  rename_i a b l
  intro a' t e r c hc
  injection e with e1 e2
  subst e1
  obtain ⟨r', e', hc'⟩ := ih a l rfl (b :: r) c (.go hN hne hc)
  exact ⟨r', by rw [← e']; simp, hc'⟩
theorem Rv.end_ {N : Nxt} {f a : Sid2} {t : List Sid2} (h : Rv N f (a :: t)) {c : Bool} (hc : Ch N f a [] c) : ∃ r, (a :: t).reverse = f :: r ∧ Ch N f f r c := by
 obtain ⟨r, e, hr⟩ := h.join a t rfl [] c hc
 exact ⟨r, by simpa using e, hr⟩
theorem Ch.closed {N : Nxt} {f a : Sid2} {l : List Sid2} {c : Bool} (h : Ch N f a l c) : ∀ x ∈ a :: l, ∀ b, N x = some b → b = f ∨ b ∈ l := by
 induction h with
 | stop h => intro x hx b hb; rw [List.mem_singleton.1 hx, h] at hb; cases hb
 | back h => intro x hx b hb; rw [List.mem_singleton.1 hx, h] at hb; injection hb with hb; exact .inl hb.symm
 | go h hne _ ih =>
  intro x hx b hb
  rcases List.mem_cons.1 hx with rfl | hx
  ·rw [h] at hb; injection hb with hb; subst hb; exact .inr List.mem_cons_self
  ·rcases ih x hx b hb with e | e
   ·exact .inl e
   ·exact .inr (List.mem_cons_of_mem _ e)
theorem Ch.pred {N : Nxt} {f a : Sid2} {l : List Sid2} {c : Bool} (h : Ch N f a l c) : (∀ b ∈ l, ∃ p ∈ a :: l, N p = some b) ∧ (c = true → ∃ p ∈ a :: l, N p = some f) := by
 induction h with
 | stop h => exact ⟨fun b hb => (by cases hb), fun e => (by cases e)⟩
 | back h => exact ⟨fun b hb => (by cases hb), fun _ => ⟨_, List.mem_cons_self, h⟩⟩
 | go h hne _ ih =>
  refine ⟨fun x hx => ?_, fun e => ?_⟩
  ·rcases List.mem_cons.1 hx with rfl | hx
   ·exact ⟨_, List.mem_cons_self, h⟩
   ·obtain ⟨p, hp, hpe⟩ := ih.1 x hx
    exact ⟨p, List.mem_cons_of_mem _ hp, hpe⟩
  ·obtain ⟨p, hp, hpe⟩ := ih.2 e
   exact ⟨p, List.mem_cons_of_mem _ hp, hpe⟩
theorem Ch.total {N : Nxt} {f a : Sid2} {l : List Sid2} {c : Bool} (U : Sid2 → Prop) (hU : ∀ u, U u → ∃ v, U v ∧ N u = some v) (h : Ch N f a l c) : U a → c = true := by
 induction h with
 | stop h => intro ha; obtain ⟨v, _, e⟩ := hU _ ha; rw [h] at e; cases e
 | back h => intro _; rfl
 | go h _ _ ih =>
  intro ha
  obtain ⟨v, hv, e⟩ := hU _ ha
  rw [h] at e; injection e with e; subst e
  exact ih hv

inductive PassP (N : Nxt) (F : Sid2 → Bool) (is : Bool) : List Sid2 → List Sid2 → List (List Sid2 × Bool) → List Sid2 → Prop
 | nil {sn : List Sid2} : PassP N F is [] sn [] sn
 | skip {f : Sid2} {l sn sn' : List Sid2} {o : List (List Sid2 × Bool)} : (f ∈ sn ∨ (is = false ∧ F f = true)) → PassP N F is l sn o sn' → PassP N F is (f :: l) sn o sn'
 | take {f : Sid2} {l sn sn' r : List Sid2} {o : List (List Sid2 × Bool)} {c : Bool} : f ∉ sn → ¬ (is = false ∧ F f = true) → Ch N f f r c → PassP N F is l (sn ++ f :: r) o sn' → PassP N F is (f :: l) sn ((f :: r, is) :: o) sn'
theorem PassP.det {N : Nxt} {F : Sid2 → Bool} {is : Bool} {l sn sn' : List Sid2} {o : List (List Sid2 × Bool)} (h : PassP N F is l sn o sn') : ∀ {o' : List (List Sid2 × Bool)} {sn2 : List Sid2}, PassP N F is l sn o' sn2 → o = o' ∧ sn' = sn2 := by
 induction h with
 | nil => intro o' sn2 h'; cases h'; exact ⟨rfl, rfl⟩
 | skip h _ ih =>
  intro o' sn2 h'
  cases h' with
  | skip _ h2 => exact ih h2
  | take h2 h3 => rcases h with h | h
                  ·exact absurd h h2
                  ·exact absurd h h3
 | take h1 h2 h3 _ ih =>
  intro o' sn2 h'
  cases h' with
  | skip h _ => rcases h with h | h
                ·exact absurd h h1
                ·exact absurd h h2
  | take _ _ h4 h5 =>
   obtain ⟨e, _⟩ := h3.det h4
   subst e
   obtain ⟨e1, e2⟩ := ih h5
   exact ⟨by rw [e1], e2⟩
theorem PassP.none_ {N : Nxt} {F : Sid2 → Bool} {is : Bool} {sn : List Sid2} : ∀ {l : List Sid2}, (∀ f ∈ l, f ∈ sn ∨ (is = false ∧ F f = true)) → PassP N F is l sn [] sn
 | [], _ => .nil
 | f :: _, h => .skip (h f List.mem_cons_self) (PassP.none_ fun x hx => h x (List.mem_cons_of_mem _ hx))
theorem PassP.app {N : Nxt} {F : Sid2 → Bool} {is : Bool} {b sn sn' : List Sid2} {o : List (List Sid2 × Bool)} : ∀ {a : List Sid2}, (∀ f ∈ a, f ∈ sn ∨ (is = false ∧ F f = true)) → PassP N F is b sn o sn' → PassP N F is (a ++ b) sn o sn'
 | [], _, h => h
 | f :: _, h, h2 => .skip (h f List.mem_cons_self) (PassP.app (fun x hx => h x (List.mem_cons_of_mem _ hx)) h2)
theorem PassP.drop {N : Nxt} {F : Sid2 → Bool} {is : Bool} {b sn sn' : List Sid2} {o : List (List Sid2 × Bool)} : ∀ {a : List Sid2}, (∀ f ∈ a, f ∈ sn ∨ (is = false ∧ F f = true)) → PassP N F is (a ++ b) sn o sn' → PassP N F is b sn o sn'
 | [], _, h => h
 | f :: _, h, h2 => by
  cases h2 with
  | skip _ h3 => exact PassP.drop (fun x hx => h x (List.mem_cons_of_mem _ hx)) h3
  | take h3 h4 => rcases h f List.mem_cons_self with h | h
                  ·exact absurd h h3
                  ·exact absurd h h4
theorem PassP.anew {N : Nxt} {F : Sid2 → Bool} {is : Bool} {a b sn sn' r : List Sid2} {f : Sid2} {o : List (List Sid2 × Bool)} {c : Bool} (ha : ∀ x ∈ a, x ∈ sn ∨ (is = false ∧ F x = true)) (h1 : f ∉ sn) (h2 : ¬ (is = false ∧ F f = true)) (hc : Ch N f f r c)
    (h : PassP N F is (a ++ f :: b) (sn ++ f :: r) o sn') : PassP N F is (a ++ f :: b) sn ((f :: r, is) :: o) sn' := by
 have h3 := h.drop (a := a) (fun x hx => by
  rcases ha x hx with k | k
  ·exact .inl (List.mem_append_left _ k)
  ·exact .inr k)
 cases h3 with
 | skip _ h4 => exact .app ha (.take h1 h2 hc h4)
 | take h4 => exact absurd (List.mem_append_right _ List.mem_cons_self) h4
theorem PassP.heads {N : Nxt} {F : Sid2 → Bool} {is : Bool} {l sn sn' : List Sid2} {o : List (List Sid2 × Bool)} (h : PassP N F is l sn o sn') : (∀ x ∈ sn, x ∈ sn') ∧ (∀ k ∈ o, ∃ f r, k = (f :: r, is) ∧ f ∉ sn ∧ f ∈ sn' ∧ f ∈ l ∧ ∃ c, Ch N f f r c) ∧ (o.map fun k => k.1.head?).Nodup := by
 induction h with
 | nil => exact ⟨fun _ h => h, fun _ h => (by cases h), List.nodup_nil⟩
 | skip _ _ ih =>
  refine ⟨ih.1, fun k hk => ?_, ih.2.2⟩
  obtain ⟨f, r, e, h1, h2, h3, h4⟩ := ih.2.1 k hk
  exact ⟨f, r, e, h1, h2, List.mem_cons_of_mem _ h3, h4⟩
 | take h1 h2 h3 _ ih =>
  rename_i f l sn sn' r o c _
  refine ⟨fun x hx => ih.1 x (List.mem_append_left _ hx), fun k hk => ?_, ?_⟩
  ·rcases List.mem_cons.1 hk with rfl | hk
   ·exact ⟨f, r, rfl, h1, ih.1 _ (List.mem_append_right _ List.mem_cons_self), List.mem_cons_self, c, h3⟩
   ·obtain ⟨f', r', e, k1, k2, k3, k4⟩ := ih.2.1 k hk
    exact ⟨f', r', e, fun hm => k1 (List.mem_append_left _ hm), k2, List.mem_cons_of_mem _ k3, k4⟩
  ·rw [List.map_cons, List.nodup_cons]
   refine ⟨fun hm => ?_, ih.2.2⟩
   obtain ⟨k, hk, e⟩ := List.mem_map.1 hm
   obtain ⟨f', r', e', k1, _⟩ := ih.2.1 k hk
   subst e'
   simp only [List.head?_cons, Option.some.injEq] at e
   subst e
   exact k1 (List.mem_append_right _ List.mem_cons_self)

def leS (a b : Sid2) : Prop := a.f < b.f ∨ (a.f = b.f ∧ a.t ≤ b.t)
theorem sidX {a b : Sid2} (h1 : a.f = b.f) (h2 : a.t = b.t) : a = b := by cases a; cases b; simp_all
theorem leS_anti {a b : Sid2} (h1 : leS a b) (h2 : leS b a) : a = b := sidX (by unfold leS at *; omega) (by unfold leS at *; omega)
def leC (a b : List Sid2 × Bool) : Prop := ∀ x y, a.1.head? = some x → b.1.head? = some y → leS x y
def IsConts (S : List Seg5) (cs : List (List Sid2 × Bool)) : Prop :=
 ∃ l o1 s1 o2 s2, l.Perm (S.map (·.fr)) ∧ l.Pairwise leS ∧ PassP (nxt S) (folB S) false l [] o1 s1 ∧ PassP (nxt S) (folB S) true l s1 o2 s2 ∧ cs.Perm (o1 ++ o2) ∧ cs.Pairwise leC
theorem IsConts.det {S : List Seg5} {cs cs' : List (List Sid2 × Bool)} (h : IsConts S cs) (h' : IsConts S cs') : cs = cs' := by
 obtain ⟨l, o1, s1, o2, s2, h1, h2, h3, h4, h5, h6⟩ := h
 obtain ⟨l', o1', s1', o2', s2', h1', h2', h3', h4', h5', h6'⟩ := h'
 obtain rfl : l = l' := List.Perm.eq_of_pairwise (le := leS) (fun a b _ _ => leS_anti) h2 h2' (h1.trans h1'.symm)
 obtain ⟨rfl, rfl⟩ := h3.det h3'
 obtain ⟨rfl, rfl⟩ := h4.det h4'
 have hn : ((o1 ++ o2).map fun k => k.1.head?).Nodup := by
  rw [List.map_append, List.nodup_append]
  refine ⟨h3.heads.2.2, h4.heads.2.2, fun x hx y hy e => ?_⟩
  subst e
  obtain ⟨k, hk, e1⟩ := List.mem_map.1 hx
  obtain ⟨k', hk', e2⟩ := List.mem_map.1 hy
  obtain ⟨f, r, rfl, _, m1, _⟩ := h3.heads.2.1 k hk
  obtain ⟨f', r', rfl, m2, _⟩ := h4.heads.2.1 k' hk'
  rw [← e1] at e2
  simp only [List.head?_cons, Option.some.injEq] at e2
  subst e2
  exact m2 m1
 have hd : ∀ k ∈ o1 ++ o2, ∃ f, k.1.head? = some f := fun k hk => by
  rcases List.mem_append.1 hk with hk | hk
  ·obtain ⟨f, r, rfl, _⟩ := h3.heads.2.1 k hk; exact ⟨f, rfl⟩
  ·obtain ⟨f, r, rfl, _⟩ := h4.heads.2.1 k hk; exact ⟨f, rfl⟩
 refine List.Perm.eq_of_pairwise (le := leC) (fun a b ha hb hab hba => ?_) h6 h6' (h5.trans h5'.symm)
 have ha := h5.subset ha
 have hb := h5'.subset hb
 obtain ⟨x, hx⟩ := hd a ha
 obtain ⟨y, hy⟩ := hd b hb
 have : x = y := leS_anti (hab x y hx hy) (hba y x hy hx)
 subst this
 have inj : ∀ (l : List (List Sid2 × Bool)), (l.map fun k => k.1.head?).Nodup → ∀ a ∈ l, ∀ b ∈ l, a.1.head? = b.1.head? → a = b := fun l => by
  induction l with
  | nil => intro _ a ha; cases ha
  | cons k l ih =>
   intro hn a ha b hb e
   rw [List.map_cons, List.nodup_cons] at hn
   rcases List.mem_cons.1 ha with rfl | ha' <;> rcases List.mem_cons.1 hb with rfl | hb'
   ·rfl
   ·exact absurd (List.mem_map.2 ⟨b, hb', e.symm⟩) hn.1
   ·exact absurd (List.mem_map.2 ⟨a, ha', e⟩) hn.1
   ·exact ih hn.2 a ha' b hb' e
 exact inj _ hn a ha b hb (hx.trans hy.symm)

structure SegOk (S : List Seg5) : Prop where
 fr : (S.map (·.fr)).Nodup
 to : (S.map (·.to)).Nodup
theorem nxt_some : ∀ {S : List Seg5} {a b : Sid2}, nxt S a = some b → ∃ g ∈ S, g.fr = a ∧ g.to = b
 | g :: S, a, b, h => by
  unfold nxt at h
  split at h
  ·rename_i e; injection h with h; exact ⟨g, List.mem_cons_self, e, h⟩
  ·obtain ⟨g', h1, h2⟩ := nxt_some h; exact ⟨g', List.mem_cons_of_mem _ h1, h2⟩
theorem nxt_none : ∀ {S : List Seg5} {a : Sid2}, nxt S a = none ↔ a ∉ S.map (·.fr)
 | [], a => by simp [nxt]
 | g :: S, a => by
  unfold nxt
  split
  ·rename_i e; simp [e]
  ·rename_i e
   rw [nxt_none, List.map_cons, List.mem_cons, not_or]
   exact ⟨fun h => ⟨fun e' => e e'.symm, h⟩, fun h => h.2⟩
theorem nxt_at : ∀ {S : List Seg5}, (S.map (·.fr)).Nodup → ∀ {g : Seg5}, g ∈ S → nxt S g.fr = some g.to
 | k :: S, hn, g, hg => by
  rw [List.map_cons, List.nodup_cons] at hn
  unfold nxt
  rcases List.mem_cons.1 hg with rfl | hg
  ·rw [if_pos rfl]
  ·rw [if_neg (fun e => hn.1 (by rw [e]; exact List.mem_map.2 ⟨g, hg, rfl⟩))]
   exact nxt_at hn.2 hg
theorem map_inj {α β : Type} {f : α → β} : ∀ {l : List α}, (l.map f).Nodup → ∀ a ∈ l, ∀ b ∈ l, f a = f b → a = b
 | k :: l, hn, a, ha, b, hb, e => by
  rw [List.map_cons, List.nodup_cons] at hn
  rcases List.mem_cons.1 ha with rfl | ha' <;> rcases List.mem_cons.1 hb with rfl | hb'
  ·rfl
  ·exact absurd (List.mem_map.2 ⟨b, hb', e.symm⟩) hn.1
  ·exact absurd (List.mem_map.2 ⟨a, ha', e⟩) hn.1
  ·exact map_inj hn.2 a ha' b hb' e
theorem SegOk.inj {S : List Seg5} (h : SegOk S) (a b c : Sid2) (h1 : nxt S a = some c) (h2 : nxt S b = some c) : a = b := by
 obtain ⟨g, hg, e1, e2⟩ := nxt_some h1
 obtain ⟨k, hk, e3, e4⟩ := nxt_some h2
 rw [← e1, ← e3, map_inj h.to g hg k hk (e2.trans e4.symm)]
theorem SegOk.perm {S S' : List Seg5} (h : SegOk S) (hp : S'.Perm S) : SegOk S' := ⟨(hp.map _).nodup_iff.2 h.fr, (hp.map _).nodup_iff.2 h.to⟩
theorem nxt_perm {S S' : List Seg5} (h : SegOk S) (hp : S'.Perm S) : nxt S' = nxt S := by
 funext a
 cases e : nxt S a with
 | none =>
  rw [nxt_none] at e ⊢
  exact fun hm => e ((hp.map _).subset hm)
 | some b =>
  obtain ⟨g, hg, rfl, rfl⟩ := nxt_some e
  exact nxt_at (h.perm hp).fr (hp.symm.subset hg)
theorem folB_iff {S : List Seg5} {s : Sid2} : folB S s = true ↔ ∃ g ∈ S, g.to = s := by simp [folB]
theorem folB_nxt {S : List Seg5} (h : SegOk S) {s : Sid2} : folB S s = true ↔ ∃ p, nxt S p = some s := by
 rw [folB_iff]
 constructor
 ·rintro ⟨g, hg, rfl⟩; exact ⟨g.fr, nxt_at h.fr hg⟩
 ·rintro ⟨p, hp⟩; obtain ⟨g, hg, _, e⟩ := nxt_some hp; exact ⟨g, hg, e⟩
theorem folB_perm {S S' : List Seg5} (hp : S'.Perm S) : folB S' = folB S := by
 funext s
 rw [Bool.eq_iff_iff, folB_iff, folB_iff]
 exact ⟨fun ⟨g, hg, e⟩ => ⟨g, hp.subset hg, e⟩, fun ⟨g, hg, e⟩ => ⟨g, hp.symm.subset hg, e⟩⟩
theorem Rv.short {S : List Seg5} (h : SegOk S) {f a : Sid2} {t : List Sid2} (hr : Rv (nxt S) f (a :: t)) : t.length ≤ S.length := by
 have hn := (List.nodup_cons.1 (hr.nodup h.inj)).2
 have := hn.length_le_of_subset (l₂ := S.map (·.fr)) fun x hx => by
  have := hr.some_ a t rfl x hx
  obtain ⟨b, hb⟩ := Option.isSome_iff_exists.1 this
  obtain ⟨g, hg, e, _⟩ := nxt_some hb
  exact e ▸ List.mem_map.2 ⟨g, hg, rfl⟩
 rwa [List.length_map] at this

structure Seen (N : Nxt) (sn : List Sid2) : Prop where
 next : ∀ a b, N a = some b → a ∈ sn → b ∈ sn
 prev : ∀ a b, N a = some b → b ∈ sn → a ∈ sn
theorem Seen.nil (N : Nxt) : Seen N [] := ⟨fun _ _ _ h => (by cases h), fun _ _ _ h => (by cases h)⟩
theorem Seen.take {N : Nxt} (inj : ∀ a b c, N a = some c → N b = some c → a = b) {sn r : List Sid2} {f : Sid2} {c : Bool} (h : Seen N sn) (hc : Ch N f f r c) (hf : c = true ∨ ∀ p, N p ≠ some f) : Seen N (sn ++ f :: r) := by
 refine ⟨fun a b hab ha => ?_, fun a b hab hb => ?_⟩
 ·rcases List.mem_append.1 ha with ha | ha
  ·exact List.mem_append_left _ (h.next a b hab ha)
  ·rcases hc.closed a ha b hab with rfl | hb
   ·exact List.mem_append_right _ List.mem_cons_self
   ·exact List.mem_append_right _ (List.mem_cons_of_mem _ hb)
 ·rcases List.mem_append.1 hb with hb | hb
  ·exact List.mem_append_left _ (h.prev a b hab hb)
  ·rcases List.mem_cons.1 hb with rfl | hb
   ·rcases hf with hf | hf
    ·obtain ⟨p, hp, e⟩ := hc.pred.2 hf
     rw [inj _ _ _ hab e]
     exact List.mem_append_right _ hp
    ·exact absurd hab (hf a)
   ·obtain ⟨p, hp, e⟩ := hc.pred.1 b hb
    rw [inj _ _ _ hab e]
    exact List.mem_append_right _ hp
theorem rows_close {S : List Seg5} (h : SegOk S) {sn : List Sid2} (hs : Seen (nxt S) sn) (hf : ∀ g ∈ S, g.fr ∉ sn → folB S g.fr = true) : ∀ u, (u ∈ S.map (·.fr) ∧ u ∉ sn) → ∃ v, (v ∈ S.map (·.fr) ∧ v ∉ sn) ∧ nxt S u = some v := by
 intro u hu
 let U := (S.map (·.fr)).filter fun x => decide (x ∉ sn)
 have hUm : ∀ x, x ∈ U ↔ x ∈ S.map (·.fr) ∧ x ∉ sn := fun x => by simp [U]
 have hUn : U.Nodup := List.Nodup.sublist List.filter_sublist h.fr
 have hp : ∀ x, x ∈ U → ∃ p, nxt S p = some x := fun x hx => by
  obtain ⟨h1, h2⟩ := (hUm x).1 hx
  obtain ⟨g, hg, rfl⟩ := List.mem_map.1 h1
  exact (folB_nxt h).1 (hf g hg h2)
 have hpU : ∀ x p, x ∈ U → nxt S p = some x → p ∈ U := fun x p hx hpx => by
  obtain ⟨h1, h2⟩ := (hUm x).1 hx
  refine (hUm p).2 ⟨?_, fun hm => h2 (hs.next p x hpx hm)⟩
  obtain ⟨g, hg, e, _⟩ := nxt_some hpx
  exact e ▸ List.mem_map.2 ⟨g, hg, rfl⟩
 let q : Sid2 → Sid2 := fun x => ((S.find? fun g => decide (g.to = x)).map (·.fr)).getD x
 have hq : ∀ x, x ∈ U → nxt S (q x) = some x := fun x hx => by
  obtain ⟨p, hpx⟩ := hp x hx
  obtain ⟨g, hg, e1, e2⟩ := nxt_some hpx
  cases hfd : S.find? fun g => decide (g.to = x) with
  | none => exact absurd (List.find?_eq_none.1 hfd g hg) (by simp [e2])
  | some k =>
   have hk := List.mem_of_find?_eq_some hfd
   have hk2 := List.find?_some hfd
   simp only [decide_eq_true_eq] at hk2
   simp only [q, hfd, Option.map_some, Option.getD_some]
   rw [nxt_at h.fr hk, hk2]
 have hPn : (U.map q).Nodup := nodup_map_of hUn fun a ha b hb e => by
  have h1 := hq a ha
  have h2 := hq b hb
  rw [e, h2] at h1
  injection h1 with h1
  exact h1.symm
 have hPs : ∀ x ∈ U.map q, x ∈ U := fun x hx => by
  obtain ⟨y, hy, rfl⟩ := List.mem_map.1 hx
  exact hpU y _ hy (hq y hy)
 have huU := (hUm u).2 hu
 have hin : u ∈ U.map q := by
  by_cases hm : u ∈ U.map q
  ·exact hm
  ·have h3 : (u :: U.map q).Nodup := List.nodup_cons.2 ⟨hm, hPn⟩
   have := h3.length_le_of_subset (l₂ := U) fun x hx => by
    rcases List.mem_cons.1 hx with rfl | hx
    ·exact huU
    ·exact hPs x hx
   simp at this; omega
 obtain ⟨v, hv, e⟩ := List.mem_map.1 hin
 exact ⟨v, (hUm v).1 hv, e ▸ hq v hv⟩
theorem row_closed {S : List Seg5} (h : SegOk S) {sn : List Sid2} (hs : Seen (nxt S) sn) (hf : ∀ g ∈ S, g.fr ∉ sn → folB S g.fr = true) {f : Sid2} {r : List Sid2} {c : Bool} (h1 : f ∈ S.map (·.fr)) (h2 : f ∉ sn) (hc : Ch (nxt S) f f r c) : c = true :=
 hc.total (fun u => u ∈ S.map (·.fr) ∧ u ∉ sn) (rows_close h hs hf) ⟨h1, h2⟩
end Go.Proofs.YtlblimbelfenaaaGreat

/- Plain law: runs of equals, and lists in order. -/
namespace Go.Proofs.YtlblimbelfenaaaGreat
def compG {α : Type} [DecidableEq α] : List α → List α
 | [] => []
 | [x] => [x]
 | x :: y :: l => if x = y then compG (y :: l) else x :: compG (y :: l)
theorem compG_snoc {α : Type} [DecidableEq α] {x : α} : ∀ {l : List α} {y : α}, l.getLast? = some y → compG (l ++ [x]) = if y = x then compG l else compG l ++ [x]
 | [z], y, h => by
  simp only [List.getLast?_singleton, Option.some.injEq] at h
  subst h
  simp only [List.cons_append, List.nil_append, compG]
  split <;> simp_all [compG]
 | z :: u :: l, y, h => by
  rw [List.getLast?_cons_cons] at h
  have ih := compG_snoc (x := x) h
  simp only [List.cons_append] at ih ⊢
  simp only [compG]
  split
  ·rw [ih]
  ·rw [ih]; split <;> simp
def leSb (a b : Sid2) : Bool := decide (a.f < b.f) || (decide (a.f = b.f) && decide (a.t ≤ b.t))
theorem leSb_iff {a b : Sid2} : leSb a b = true ↔ leS a b := by unfold leSb leS; simp
def srtS (l : List Sid2) : List Sid2 := l.mergeSort leSb
theorem srtS_perm (l : List Sid2) : (srtS l).Perm l := List.mergeSort_perm _ _
theorem srtS_sorted (l : List Sid2) : (srtS l).Pairwise leS := by
 have := List.pairwise_mergeSort (le := leSb) (fun a b c h1 h2 => by rw [leSb_iff] at *; unfold leS at *; omega) (fun a b => by rw [Bool.or_eq_true, leSb_iff, leSb_iff]; unfold leS; omega) l
 exact this.imp fun h => leSb_iff.1 h
theorem srtS_is {l l' : List Sid2} (hp : l'.Perm l) (hs : l'.Pairwise leS) : l' = srtS l :=
 List.Perm.eq_of_pairwise (le := leS) (fun _ _ _ _ => leS_anti) hs (srtS_sorted l) (hp.trans (srtS_perm l).symm)
end Go.Proofs.YtlblimbelfenaaaGreat

/- Plain law: passes over sides, one by one. -/
namespace Go.Proofs.YtlblimbelfenaaaGreat
theorem PassP.append {N : Nxt} {F : Sid2 → Bool} {is : Bool} {a b sn sn1 sn2 : List Sid2} {o o2 : List (List Sid2 × Bool)} (h : PassP N F is a sn o sn1) : PassP N F is b sn1 o2 sn2 → PassP N F is (a ++ b) sn (o ++ o2) sn2 := by
 induction h with
 | nil => intro h2; exact h2
 | skip h _ ih => intro h2; exact .skip h (ih h2)
 | take h1 h2 h3 _ ih => intro h4; exact .take h1 h2 h3 (ih h4)
theorem PassP.skip1 {N : Nxt} {F : Sid2 → Bool} {is : Bool} {l sn0 sn : List Sid2} {o : List (List Sid2 × Bool)} {k : Nat} {f : Sid2} (h : PassP N F is (l.take k) sn0 o sn) (hf : l[k]? = some f) (hs : f ∈ sn ∨ (is = false ∧ F f = true)) : PassP N F is (l.take (k + 1)) sn0 o sn := by
 rw [List.take_add_one, hf]
 have := h.append (.skip hs .nil)
 rwa [List.append_nil] at this
theorem PassP.take1 {N : Nxt} {F : Sid2 → Bool} {is : Bool} {l sn0 sn r : List Sid2} {o : List (List Sid2 × Bool)} {k : Nat} {f : Sid2} {c : Bool} (h : PassP N F is (l.take k) sn0 o sn) (hf : l[k]? = some f) (h1 : f ∉ sn) (h2 : ¬ (is = false ∧ F f = true)) (hc : Ch N f f r c) : PassP N F is (l.take (k + 1)) sn0 (o ++ [(f :: r, is)]) (sn ++ f :: r) := by
 rw [List.take_add_one, hf]
 exact h.append (.take h1 h2 hc .nil)
theorem nxt_snoc {A : List Seg5} {g : Seg5} (h : ((A ++ [g]).map (·.fr)).Nodup) (s : Sid2) : nxt (A ++ [g]) s = if s = g.fr then some g.to else nxt A s := by
 induction A with
 | nil =>
  simp only [List.nil_append, nxt]
  by_cases e : s = g.fr
  ·rw [if_pos e, if_pos e.symm]
  ·rw [if_neg e, if_neg (fun h => e h.symm)]
 | cons k A ih =>
  simp only [List.cons_append, List.map_cons, List.nodup_cons] at h
  simp only [List.cons_append, nxt]
  rw [ih h.2]
  split
  ·rename_i e
   rw [if_neg]
   intro e2
   exact h.1 (by rw [e, e2]; simp)
  ·rfl
theorem folB_snoc {A : List Seg5} {g : Seg5} (s : Sid2) : folB (A ++ [g]) s = if s = g.to then true else folB A s := by
 rw [Bool.eq_iff_iff]
 split
 ·rename_i e; simp [folB, e]
 ·rename_i e
  simp only [folB, List.map_append, List.map_cons, List.map_nil, List.contains_eq_mem, List.mem_append, List.mem_singleton, decide_eq_true_eq, e, or_false]
theorem take_snoc {α : Type} {l : List α} {k : Nat} {x : α} (h : l[k]? = some x) : l.take (k + 1) = l.take k ++ [x] := by rw [List.take_add_one, h]; rfl
theorem nodup_take {S : List Seg5} (h : (S.map (·.fr)).Nodup) (k : Nat) : ((S.take k).map (·.fr)).Nodup := by
 rw [List.map_take]; exact h.sublist (List.take_sublist _ _)
theorem sgL_ok {V : List Vec3} {Fs : List Fac3} {z : Int} (hM : MOk V Fs) : SegOk (sgL V Fs z) := ⟨(sg_nodup hM.dup).1, (sg_nodup hM.dup).2⟩
theorem IsConts.of {S : List Seg5} {cs O : List (List Sid2 × Bool)} {s1 s2 : List Sid2} {o1 o2 : List (List Sid2 × Bool)} (h1 : PassP (nxt S) (folB S) false (srtS (S.map (·.fr))) [] o1 s1) (h2 : PassP (nxt S) (folB S) true (srtS (S.map (·.fr))) s1 o2 s2) (hO : O = o1 ++ o2) (hp : cs.Perm O) (hs : cs.Pairwise leC) : IsConts S cs :=
 ⟨_, o1, s1, o2, s2, srtS_perm _, srtS_sorted _, h1, h2, hO ▸ hp, hs⟩
def hdS (k : List Sid2 × Bool) : Sid2 := k.1.headD ⟨0, 0⟩
theorem leC_of {a b : List Sid2 × Bool} (h : leS (hdS a) (hdS b)) : leC a b := fun x y hx hy => by
 obtain ⟨a1, a2⟩ := a
 obtain ⟨b1, b2⟩ := b
 cases a1 with
 | nil => cases hx
 | cons x' _ => cases b1 with
  | nil => cases hy
  | cons y' _ =>
   simp only [List.head?_cons, Option.some.injEq] at hx hy
   subst hx; subst hy
   exact h
theorem PassP.ne {N : Nxt} {F : Sid2 → Bool} {is : Bool} {l sn sn' : List Sid2} {o : List (List Sid2 × Bool)} (h : PassP N F is l sn o sn') : ∀ k ∈ o, k.1 ≠ [] := fun k hk => by
 obtain ⟨f, r, rfl, _⟩ := h.heads.2.1 k hk
 simp
end Go.Proofs.YtlblimbelfenaaaGreat

/- Rings of closed contours: rounded points, no point twice in a row, twice the area; plain. -/
namespace Go.Proofs.YtlblimbelfenaaaGreat
theorem cutN_between (p q za zb z : Int) (h1 : za < z) (h2 : z ≤ zb) : min p q * (zb - za) ≤ cutN p q za zb z ∧ cutN p q za zb z ≤ max p q * (zb - za) := by
 have e : cutN p q za zb z = p * (zb - za) + (q - p) * (z - za) := rfl
 have e2 : cutN p q za zb z = q * (zb - za) + (p - q) * (zb - z) := by
  rw [e, show zb - z = (zb - za) - (z - za) by omega]
  generalize zb - za = D
  generalize z - za = t
  rw [Int.mul_sub (p - q) D t, Int.sub_mul q p t, Int.sub_mul p q D, Int.sub_mul p q t]
  omega
 rcases Int.le_total p q with h | h
 ·have k1 : 0 ≤ (q - p) * (z - za) := Int.mul_nonneg (by omega) (by omega)
  have k2 : 0 ≤ (q - p) * (zb - z) := Int.mul_nonneg (by omega) (by omega)
  have k3 : (p - q) * (zb - z) = -((q - p) * (zb - z)) := by rw [← Int.neg_mul]; congr 1; omega
  rw [show min p q = p by omega, show max p q = q by omega]
  omega
 ·have k1 : 0 ≤ (p - q) * (z - za) := Int.mul_nonneg (by omega) (by omega)
  have k2 : 0 ≤ (p - q) * (zb - z) := Int.mul_nonneg (by omega) (by omega)
  have k3 : (q - p) * (z - za) = -((p - q) * (z - za)) := by rw [← Int.neg_mul]; congr 1; omega
  rw [show min p q = q by omega, show max p q = p by omega]
  omega
theorem low_between (p q za zb z : Int) (h1 : za < z) (h2 : z ≤ zb) : min p q * (lowF (cutN p q za zb z) (zb - za)).d ≤ (lowF (cutN p q za zb z) (zb - za)).n ∧ (lowF (cutN p q za zb z) (zb - za)).n ≤ max p q * (lowF (cutN p q za zb z) (zb - za)).d ∧ 1 ≤ (lowF (cutN p q za zb z) (zb - za)).d ∧ (lowF (cutN p q za zb z) (zb - za)).d ≤ zb - za := by
 obtain ⟨b1, b2⟩ := cutN_between p q za zb z h1 h2
 generalize cutN p q za zb z = N at b1 b2 ⊢
 have hD : 1 ≤ zb - za := by omega
 generalize zb - za = D at b1 b2 hD ⊢
 have hg := gcd_pos' (n := N) hD
 have d1 : ((Int.gcd N D : Nat) : Int) ∣ N := Int.gcd_dvd_left ..
 have d2 : ((Int.gcd N D : Nat) : Int) ∣ D := Int.gcd_dvd_right ..
 have e1 : (lowF N D).n * (Int.gcd N D : Nat) = N := Int.tdiv_mul_cancel d1
 have e2 : (lowF N D).d * (Int.gcd N D : Nat) = D := Int.tdiv_mul_cancel d2
 generalize (lowF N D).n = n at e1 ⊢
 generalize (lowF N D).d = d at e2 ⊢
 generalize ((Int.gcd N D : Nat) : Int) = g at e1 e2 hg
 have c1 : min p q * d ≤ n := by
  refine Int.le_of_mul_le_mul_right (a := g) ?_ (by omega)
  rw [Int.mul_assoc, e2, e1]; exact b1
 have c2 : n ≤ max p q * d := by
  refine Int.le_of_mul_le_mul_right (a := g) ?_ (by omega)
  rw [Int.mul_assoc, e2, e1]; exact b2
 have c3 : 1 ≤ d := by
  rcases Int.lt_or_le 0 d with h | h
  ·omega
  ·have : d * g ≤ 0 * g := Int.mul_le_mul_of_nonneg_right h (by omega)
   omega
 refine ⟨c1, c2, c3, ?_⟩
 have : d * 1 ≤ d * g := Int.mul_le_mul_of_nonneg_left hg (by omega)
 omega

structure P2 where
 x : Int
 y : Int
deriving DecidableEq
def P2.in (p : P2) : Prop := (-100000 ≤ p.x ∧ p.x ≤ 100000) ∧ (-100000 ≤ p.y ∧ p.y ≤ 100000)
def nearF (f : Fra) : Int := (2 * f.n + f.d) / (2 * f.d)
def ptV (V : List Vec3) (z : Int) (s : Sid2) : P2 := ⟨nearF (cutV V z s).x, nearF (cutV V z s).y⟩
theorem near_in {f : Fra} {lo hi : Int} (h1 : lo * f.d ≤ f.n) (h2 : f.n ≤ hi * f.d) (hd : 1 ≤ f.d) : lo ≤ nearF f ∧ nearF f ≤ hi := by
 unfold nearF
 constructor
 ·rw [Int.le_ediv_iff_mul_le (by omega)]
  have : lo * (2 * f.d) = 2 * (lo * f.d) := by rw [Int.mul_left_comm]
  omega
 ·have : (2 * f.n + f.d) / (2 * f.d) < hi + 1 := by
   rw [Int.ediv_lt_iff_lt_mul (by omega)]
   have : (hi + 1) * (2 * f.d) = 2 * (hi * f.d) + 2 * f.d := by rw [Int.add_mul, Int.mul_left_comm, Int.one_mul]
   omega
  omega
theorem pt_in {V : List Vec3} {z : Int} {s : Sid2} (hn : ∀ i : Nat, i < V.length → (vx V i).in 100000) (hs : Cuts' V z s) : (ptV V z s).in := by
 obtain ⟨⟨a1, a2⟩, ⟨b1, b2⟩, h1, h2⟩ := hs
 obtain ⟨i, hi⟩ : ∃ i : Nat, s.f = i := ⟨s.f.toNat, by omega⟩
 obtain ⟨j, hj⟩ : ∃ i : Nat, s.t = i := ⟨s.t.toNat, by omega⟩
 have na := hn i (by omega)
 have nb := hn j (by omega)
 rw [← hi] at na
 rw [← hj] at nb
 have q1 := low_between (vx V s.f).x (vx V s.t).x (vx V s.f).z (vx V s.t).z z h1 h2
 have q2 := low_between (vx V s.f).y (vx V s.t).y (vx V s.f).z (vx V s.t).z z h1 h2
 have r1 := near_in q1.1 q1.2.1 q1.2.2.1
 have r2 := near_in q2.1 q2.2.1 q2.2.2.1
 unfold Vec3.in at na nb
 refine ⟨?_, ?_⟩
 ·show -100000 ≤ nearF (cutV V z s).x ∧ nearF (cutV V z s).x ≤ 100000
  unfold cutV; simp only
  omega
 ·show -100000 ≤ nearF (cutV V z s).y ∧ nearF (cutV V z s).y ≤ 100000
  unfold cutV; simp only
  omega
theorem low_small {n d M : Int} (h1 : -M ≤ n ∧ n ≤ M) (h2 : 1 ≤ d ∧ d ≤ M) : (-M ≤ (lowF n d).n ∧ (lowF n d).n ≤ M) ∧ 1 ≤ (lowF n d).d ∧ (lowF n d).d ≤ M := by
 have hg := gcd_pos' (n := n) h2.1
 have h3 : (n.tdiv (Int.gcd n d)).natAbs ≤ n.natAbs := Int.natAbs_tdiv_le_natAbs _ _
 have h4 : (d.tdiv (Int.gcd n d)).natAbs ≤ d.natAbs := Int.natAbs_tdiv_le_natAbs _ _
 have d2 : ((Int.gcd n d : Nat) : Int) ∣ d := Int.gcd_dvd_right ..
 have e2 : d.tdiv (Int.gcd n d) * (Int.gcd n d : Nat) = d := Int.tdiv_mul_cancel d2
 have h5 : 1 ≤ d.tdiv (Int.gcd n d) := by
  rcases Int.lt_or_le 0 (d.tdiv (Int.gcd n d)) with h | h
  ·omega
  ·have : d.tdiv (Int.gcd n d) * (Int.gcd n d : Nat) ≤ 0 * (Int.gcd n d : Nat) := Int.mul_le_mul_of_nonneg_right h (by omega)
   omega
 refine ⟨?_, ?_⟩
 ·show -M ≤ n.tdiv (Int.gcd n d) ∧ n.tdiv (Int.gcd n d) ≤ M
  omega
 ·show 1 ≤ d.tdiv (Int.gcd n d) ∧ d.tdiv (Int.gcd n d) ≤ M
  omega
theorem cut6_small {V : List Vec3} {Fs : List Fac3} {z : Int} {s : Sid2} (hM : MOk V Fs) (hs : Cuts' V z s) (hz : -100000 ≤ z ∧ z ≤ 100000) : ((-1000000000000000 ≤ (cutV V z s).x.n ∧ (cutV V z s).x.n ≤ 1000000000000000) ∧ 1 ≤ (cutV V z s).x.d ∧ (cutV V z s).x.d ≤ 1000000000000000) ∧ ((-1000000000000000 ≤ (cutV V z s).y.n ∧ (cutV V z s).y.n ≤ 1000000000000000) ∧ 1 ≤ (cutV V z s).y.d ∧ (cutV V z s).y.d ≤ 1000000000000000) := by
 obtain ⟨⟨a1, a2⟩, ⟨b1, b2⟩, h1, h2⟩ := hs
 obtain ⟨i, hi⟩ : ∃ i : Nat, s.f = i := ⟨s.f.toNat, by omega⟩
 obtain ⟨j, hj⟩ : ∃ i : Nat, s.t = i := ⟨s.t.toNat, by omega⟩
 have na := nearI hM.far (i := i) (by omega)
 have nb := nearI hM.far (i := j) (by omega)
 rw [← hi] at na
 rw [← hj] at nb
 unfold Vec3.in at na nb
 unfold cutV
 simp only
 generalize vx V s.f = a at *
 generalize vx V s.t = b at *
 have q : ∀ p q : Int, (-100000 ≤ p ∧ p ≤ 100000) → (-100000 ≤ q ∧ q ≤ 100000) → -1000000000000000 ≤ cutN p q a.z b.z z ∧ cutN p q a.z b.z z ≤ 1000000000000000 := fun p q hp hq => by
  unfold cutN
  have p1 : (p * (b.z - a.z)).natAbs ≤ 100000 * 200000 := by rw [Int.natAbs_mul]; exact Nat.mul_le_mul (by omega) (by omega)
  have p2 : ((q - p) * (z - a.z)).natAbs ≤ 200000 * 200000 := by rw [Int.natAbs_mul]; exact Nat.mul_le_mul (by omega) (by omega)
  omega
 exact ⟨low_small (q _ _ na.1 nb.1) (by omega), low_small (q _ _ na.2.1 nb.2.1) (by omega)⟩

def trimN : Nat → List P2 → List P2
 | 0, l => l
 | n + 1, l => if 1 < l.length ∧ l.getLast? = l.head? then trimN n l.dropLast else l
def trimE (l : List P2) : List P2 := trimN l.length l
theorem trimE_step {l : List P2} (h1 : 1 < l.length) (h2 : l.getLast? = l.head?) : trimE l = trimE l.dropLast := by
 obtain ⟨n, hn⟩ : ∃ n, l.length = n + 1 := ⟨l.length - 1, by omega⟩
 have h3 : l.dropLast.length = n := by rw [List.length_dropLast]; omega
 unfold trimE
 rw [hn, h3, trimN, if_pos ⟨by omega, h2⟩]
theorem trimE_stop {l : List P2} (h : ¬ (1 < l.length ∧ l.getLast? = l.head?)) : trimE l = l := by
 unfold trimE
 cases e : l.length with
 | zero => rfl
 | succ n => rw [trimN, if_neg (by rw [e] at h; rw [e]; exact h)]
theorem trimN_sub : ∀ (n : Nat) (l : List P2), (trimN n l).Sublist l
 | 0, l => List.Sublist.refl _
 | n + 1, l => by
  unfold trimN
  split
  ·exact (trimN_sub n _).trans (List.dropLast_sublist l)
  ·exact List.Sublist.refl _
theorem trimE_sub (l : List P2) : (trimE l).Sublist l := trimN_sub _ _
def ringV (V : List Vec3) (z : Int) (c : List Sid2) : List P2 := trimE (compG (c.map (ptV V z)))
theorem compG_subl {α : Type} [DecidableEq α] : ∀ l : List α, (compG l).Sublist l
 | [] => .slnil
 | [_] => List.Sublist.refl _
 | x :: y :: l => by
  unfold compG
  split
  ·exact (compG_subl (y :: l)).cons _
  ·exact (compG_subl (y :: l)).cons_cons _
theorem ringV_sub (V : List Vec3) (z : Int) (c : List Sid2) : (ringV V z c).Sublist (c.map (ptV V z)) := (trimE_sub _).trans (compG_subl _)

def ptA (l : List P2) (i : Nat) : P2 := l.getD i ⟨0, 0⟩
def crP (p q : P2) : Int := p.x * q.y - p.y * q.x
def dblN (l : List P2) : Nat → Int
 | 0 => 0
 | k + 1 => dblN l k + crP (ptA l k) (ptA l ((k + 1) % l.length))
def dblF (l : List P2) : Int := dblN l l.length
theorem ptA_get {l : List P2} {i : Nat} (h : i < l.length) : l[i]? = some (ptA l i) := by
 unfold ptA; rw [List.getD_eq_getElem?_getD, List.getElem?_eq_getElem h]; rfl
theorem ptA_in {l : List P2} (hl : ∀ p ∈ l, p.in) {i : Nat} (h : i < l.length) : (ptA l i).in := hl _ (List.mem_of_getElem? (ptA_get h))
theorem crP_in {p q : P2} (hp : p.in) (hq : q.in) : (-10000000000 ≤ p.x * q.y ∧ p.x * q.y ≤ 10000000000) ∧ (-10000000000 ≤ p.y * q.x ∧ p.y * q.x ≤ 10000000000) := by
 unfold P2.in at hp hq
 have h1 : (p.x * q.y).natAbs ≤ 100000 * 100000 := by rw [Int.natAbs_mul]; exact Nat.mul_le_mul (by omega) (by omega)
 have h2 : (p.y * q.x).natAbs ≤ 100000 * 100000 := by rw [Int.natAbs_mul]; exact Nat.mul_le_mul (by omega) (by omega)
 omega
theorem dblN_in {l : List P2} (hl : ∀ p ∈ l, p.in) : ∀ k : Nat, k ≤ l.length → -20000000000 * (k : Int) ≤ dblN l k ∧ dblN l k ≤ 20000000000 * k
 | 0, _ => by simp [dblN]
 | k + 1, h => by
  have ih := dblN_in hl k (by omega)
  have h1 := crP_in (ptA_in hl (i := k) (by omega)) (ptA_in hl (i := (k + 1) % l.length) (Nat.mod_lt _ (by omega)))
  unfold dblN crP
  omega
end Go.Proofs.YtlblimbelfenaaaGreat
