/- Arrays in the logic over values: an element of one, the address of an element, a literal, a slice of one. Conditions: none. -/
import Derived.Test.YtlblimbelfenaaaGreatQao
import Derived.Test.YtlblimbelfenaaaGreatQan
import Derived.Test.YtlblimbelfenaaaGreatQak
set_option linter.unusedSimpArgs false
set_option linter.unusedVariables false
/- Plain law: planes through meshes: which faces are cut, their segments, where sides are cut. -/
namespace Go.Proofs.YtlblimbelfenaaaGreat
structure Seg5 where
 i : Int
 fr : Sid2
 to : Sid2
deriving DecidableEq
def upI (V : List Vec3) (z i : Int) : Bool := decide (z ≤ (vx V i).z)
def revS (s : Sid2) : Sid2 := ⟨s.t, s.f⟩
def crF (V : List Vec3) (z : Int) (f : Fac3) : Bool := decide (minL (fzs V f) < z) && decide (z ≤ maxL (fzs V f))
def fcAt (Fs : List Fac3) (i : Nat) : Fac3 := Fs.getD i ⟨0, 0, 0⟩
def crN (V : List Vec3) (Fs : List Fac3) (z : Int) (k : Nat) : List Nat := (List.range k).filter fun i => crF V z (fcAt Fs i)
def crT (V : List Vec3) (Fs : List Fac3) (z : Int) (k : Nat) : List Int := (crN V Fs z k).map fun (i : Nat) => (i : Int)
theorem crT_next (V : List Vec3) (Fs : List Fac3) (z : Int) (k : Nat) : crT V Fs z (k + 1) = if crF V z (fcAt Fs k) = true then crT V Fs z k ++ [(k : Int)] else crT V Fs z k := by
 unfold crT crN
 rw [List.range_succ, List.filter_append, List.map_append]
 split
 ·rename_i h; simp [h]
 ·rename_i h; simp [h]
theorem crN_mem {V : List Vec3} {Fs : List Fac3} {z : Int} {k i : Nat} : i ∈ crN V Fs z k ↔ i < k ∧ crF V z (fcAt Fs i) = true := by simp [crN]
theorem crT_mem {V : List Vec3} {Fs : List Fac3} {z : Int} {k : Nat} {x : Int} (h : x ∈ crT V Fs z k) : 0 ≤ x ∧ x < k ∧ crF V z (fcAt Fs x.toNat) = true := by
 obtain ⟨i, hi, rfl⟩ := List.mem_map.1 h
 have := crN_mem.1 hi
 exact ⟨by omega, by omega, by simpa using this.2⟩
theorem crT_len (V : List Vec3) (Fs : List Fac3) (z : Int) (k : Nat) : (crT V Fs z k).length ≤ k := by
 unfold crT crN
 rw [List.length_map]
 refine Nat.le_trans (List.length_filter_le _ _) ?_
 simp
def sgS (V : List Vec3) (z : Int) (g : Seg5) (s : Sid2) : Seg5 :=
 if (upI V z s.f && !upI V z s.t) = true then ⟨g.i, revS s, g.to⟩ else if (upI V z s.t && !upI V z s.f) = true then ⟨g.i, g.fr, s⟩ else g
def sgF (V : List Vec3) (z i : Int) (f : Fac3) : Seg5 := (sds f).foldl (sgS V z) ⟨i, ⟨0, 0⟩, ⟨0, 0⟩⟩
def sgAt (V : List Vec3) (Fs : List Fac3) (z i : Int) : Seg5 := sgF V z i (fcAt Fs i.toNat)
def sgL (V : List Vec3) (Fs : List Fac3) (z : Int) : List Seg5 := (crT V Fs z Fs.length).map (sgAt V Fs z)
theorem sgL_len (V : List Vec3) (Fs : List Fac3) (z : Int) : (sgL V Fs z).length ≤ Fs.length := by
 rw [sgL, List.length_map]; exact crT_len _ _ _ _
theorem sg_spec {V : List Vec3} {z i : Int} {f : Fac3} (h : crF V z f = true) :
    (∃ s ∈ sds f, (sgF V z i f).fr = revS s ∧ z ≤ (vx V s.f).z ∧ (vx V s.t).z < z) ∧ (∃ s ∈ sds f, (sgF V z i f).to = s ∧ (vx V s.f).z < z ∧ z ≤ (vx V s.t).z) ∧ (sgF V z i f).i = i := by
 simp only [crF, fzs, minL, maxL, Bool.and_eq_true, decide_eq_true_eq] at h
 simp only [sgF, sds, List.foldl_cons, List.foldl_nil, sgS, upI, List.mem_cons, List.not_mem_nil, or_false, exists_eq_or_imp, exists_eq_left]
 by_cases ha : z ≤ (vx V f.a).z <;> by_cases hb : z ≤ (vx V f.b).z <;> by_cases hc : z ≤ (vx V f.c).z
 ·omega
 ·simp [ha, hb, hc]; omega
 ·simp [ha, hb, hc]; omega
 ·simp [ha, hb, hc]; omega
 ·simp [ha, hb, hc]; omega
 ·simp [ha, hb, hc]; omega
 ·simp [ha, hb, hc]; omega
 ·omega
theorem dupS_nodup : ∀ (l acc : List Sid2), dupS acc l = false → l.Nodup ∧ ∀ s ∈ l, s ∉ acc
 | [], _, _ => ⟨List.nodup_nil, fun _ h => by cases h⟩
 | s :: l, acc, h => by
  simp only [dupS, Bool.or_eq_false_iff] at h
  obtain ⟨h1, h2⟩ := dupS_nodup l _ h.2
  have h3 : s ∉ acc := by simpa using h.1
  refine ⟨List.nodup_cons.2 ⟨fun hs => h2 s hs (by simp), h1⟩, fun x hx => ?_⟩
  rcases List.mem_cons.1 hx with rfl | hx
  ·exact h3
  ·exact fun hm => h2 x hx (List.mem_append_left _ hm)
theorem fcAt_get {Fs : List Fac3} {i : Nat} (h : i < Fs.length) : Fs[i]? = some (fcAt Fs i) := by
 unfold fcAt; rw [List.getD_eq_getElem?_getD, List.getElem?_eq_getElem h]; rfl
theorem fcAt_mem {Fs : List Fac3} {i : Nat} (h : i < Fs.length) : fcAt Fs i ∈ Fs := List.mem_of_getElem? (fcAt_get h)
theorem sds_apart {Fs : List Fac3} (h : (Fs.flatMap sds).Nodup) {i j : Nat} {f g : Fac3} (hij : i < j) (hi : Fs[i]? = some f) (hj : Fs[j]? = some g) {s : Sid2} (h1 : s ∈ sds f) (h2 : s ∈ sds g) : False := by
 have e := sd_split hj 0
 rw [e] at h
 simp only [List.take_zero, List.append_nil, List.drop_zero] at h
 rw [List.nodup_append] at h
 refine h.2.2 s (List.mem_flatMap.2 ⟨f, ?_, h1⟩) s (List.mem_append_left _ h2) rfl
 refine List.mem_of_getElem? (i := i) ?_
 rw [List.getElem?_take, if_pos hij]; exact hi
theorem sds_inj {Fs : List Fac3} (h : (Fs.flatMap sds).Nodup) {i j : Nat} (hi : i < Fs.length) (hj : j < Fs.length) {s : Sid2} (h1 : s ∈ sds (fcAt Fs i)) (h2 : s ∈ sds (fcAt Fs j)) : i = j := by
 rcases Nat.lt_trichotomy i j with h3 | h3 | h3
 ·exact (sds_apart h h3 (fcAt_get hi) (fcAt_get hj) h1 h2).elim
 ·exact h3
 ·exact (sds_apart h h3 (fcAt_get hj) (fcAt_get hi) h2 h1).elim
theorem sgL_mem {V : List Vec3} {Fs : List Fac3} {z : Int} {g : Seg5} (h : g ∈ sgL V Fs z) : ∃ i : Nat, i < Fs.length ∧ crF V z (fcAt Fs i) = true ∧ g = sgF V z i (fcAt Fs i) := by
 obtain ⟨x, hx, rfl⟩ := List.mem_map.1 h
 obtain ⟨h0, h1, h2⟩ := crT_mem hx
 exact ⟨x.toNat, by omega, h2, by rw [sgAt, show ((x.toNat : Nat) : Int) = x by omega]⟩
theorem revS_rev (s : Sid2) : revS (revS s) = s := rfl
theorem nodup_map_of {α β : Type} {f : α → β} : ∀ {l : List α}, l.Nodup → (∀ a ∈ l, ∀ b ∈ l, f a = f b → a = b) → (l.map f).Nodup
 | [], _, _ => List.nodup_nil
 | a :: l, h, hf => by
  rw [List.map_cons, List.nodup_cons]
  rw [List.nodup_cons] at h
  refine ⟨fun hm => ?_, nodup_map_of h.2 fun x hx y hy => hf x (List.mem_cons_of_mem _ hx) y (List.mem_cons_of_mem _ hy)⟩
  obtain ⟨b, hb, e⟩ := List.mem_map.1 hm
  exact h.1 (hf b (List.mem_cons_of_mem _ hb) a List.mem_cons_self e ▸ hb)
theorem sg_nodup {V : List Vec3} {Fs : List Fac3} {z : Int} (h : dupS [] (Fs.flatMap sds) = false) : ((sgL V Fs z).map (·.fr)).Nodup ∧ ((sgL V Fs z).map (·.to)).Nodup := by
 have hn := (dupS_nodup _ _ h).1
 have hN : (crN V Fs z Fs.length).Nodup := List.Nodup.sublist List.filter_sublist List.nodup_range
 have e : sgL V Fs z = (crN V Fs z Fs.length).map fun (i : Nat) => sgF V z i (fcAt Fs i) := by
  unfold sgL crT
  rw [List.map_map]
  refine List.map_congr_left fun i _ => ?_
  simp [sgAt]
 rw [e, List.map_map, List.map_map]
 refine ⟨nodup_map_of hN fun i hi j hj hij => ?_, nodup_map_of hN fun i hi j hj hij => ?_⟩
 all_goals
  have hi := crN_mem.1 hi
  have hj := crN_mem.1 hj
  simp only [Function.comp] at hij
 ·obtain ⟨s, hs, e1, _⟩ := (sg_spec (i := i) hi.2).1
  obtain ⟨t, ht, e2, _⟩ := (sg_spec (i := j) hj.2).1
  rw [e1, e2] at hij
  have : s = t := by rw [← revS_rev s, hij, revS_rev]
  subst this
  exact sds_inj hn hi.1 hj.1 hs ht
 ·obtain ⟨s, hs, e1, _⟩ := (sg_spec (i := i) hi.2).2.1
  obtain ⟨t, ht, e2, _⟩ := (sg_spec (i := j) hj.2).2.1
  rw [e1, e2] at hij
  subst hij
  exact sds_inj hn hi.1 hj.1 hs ht
def Cuts' (V : List Vec3) (z : Int) (s : Sid2) : Prop := (0 ≤ s.f ∧ s.f < V.length) ∧ (0 ≤ s.t ∧ s.t < V.length) ∧ (vx V s.f).z < z ∧ z ≤ (vx V s.t).z
theorem sds_ix {V : List Vec3} {Fs : List Fac3} (hM : MOk V Fs) {f : Fac3} (hf : f ∈ Fs) {s : Sid2} (hs : s ∈ sds f) : (0 ≤ s.f ∧ s.f < V.length) ∧ (0 ≤ s.t ∧ s.t < V.length) := by
 obtain ⟨h1, h2, h3⟩ := hM.ix hf
 simp only [sds, List.mem_cons, List.not_mem_nil, or_false] at hs
 rcases hs with rfl | rfl | rfl
 ·exact ⟨h1, h2⟩
 ·exact ⟨h2, h3⟩
 ·exact ⟨h3, h1⟩
theorem sg_cuts {V : List Vec3} {Fs : List Fac3} {z : Int} (hM : MOk V Fs) {g : Seg5} (h : g ∈ sgL V Fs z) : Cuts' V z g.fr ∧ Cuts' V z g.to := by
 obtain ⟨i, hi, hc, rfl⟩ := sgL_mem h
 obtain ⟨⟨s, hs, e1, b1, b2⟩, ⟨t, ht, e2, c1, c2⟩, _⟩ := sg_spec (i := i) hc
 have k1 := sds_ix hM (fcAt_mem hi) hs
 have k2 := sds_ix hM (fcAt_mem hi) ht
 rw [e1, e2]
 exact ⟨⟨k1.2, k1.1, b2, b1⟩, ⟨k2.1, k2.2, c1, c2⟩⟩

structure Fra where
 n : Int
 d : Int
deriving DecidableEq
def lowF (n d : Int) : Fra := ⟨n.tdiv (Int.gcd n d), d.tdiv (Int.gcd n d)⟩
structure Cut6 where
 s : Sid2
 x : Fra
 y : Fra
deriving DecidableEq
def cutN (a b za zb z : Int) : Int := a * (zb - za) + (b - a) * (z - za)
def cutV (V : List Vec3) (z : Int) (s : Sid2) : Cut6 :=
 ⟨s, lowF (cutN (vx V s.f).x (vx V s.t).x (vx V s.f).z (vx V s.t).z z) ((vx V s.t).z - (vx V s.f).z), lowF (cutN (vx V s.f).y (vx V s.t).y (vx V s.f).z (vx V s.t).z z) ((vx V s.t).z - (vx V s.f).z)⟩
theorem cutN_ref (a b za zb z : Int) : a * ((zb - za) - (z - za)) + b * (z - za) = cutN a b za zb z := by
 unfold cutN
 rw [Int.mul_sub, Int.sub_mul b a]
 omega
end Go.Proofs.YtlblimbelfenaaaGreat

/- A slice literal that is only read from the first; slices of what is only read; several orders, walked in one step. -/
namespace Go.Proofs.YtlblimbelfenaaaGreat
open Go Go.RowKit
set_option maxRecDepth 100000
section
variable {P : Program} {N : Nat} {E : Env} {F : Fm} {H : List OB} {o : Oper}
end
section
variable {N : Nat} {E : Env} {F : Fm} {H : List OB} {o : Oper}
theorem Yslr {t e : TypeId} {sz : Nat} {x : Operand} {lo hi : Option Operand} {l h : Nat} {v : Value} {rows : List (List CV)} (ho : o.op = .slice t x lo hi none := by exact rfl) (ht : bE.get t = some (e, sz) := by exact rfl) (hx : ev F x = some (.c (.r v rows)) := by exact rfl) (hlo : (lo = none ∧ l = 0) ∨ ∃ y kd z, lo = some y ∧ ev F y = some (.c (.s (.int kd z))) ∧ z = l := by first | exact .inl ⟨rfl, rfl⟩ | exact .inr ⟨_, _, _, rfl, rfl, by first | rfl | omega⟩)
    (hhi : (hi = none ∧ h = rows.length) ∨ ∃ y kd z, hi = some y ∧ ev F y = some (.c (.s (.int kd z))) ∧ z = h := by first | exact .inl ⟨rfl, rfl⟩ | exact .inr ⟨_, _, _, rfl, rfl, by first | rfl | omega⟩) (hrow : ∀ row ∈ rows, row.length = sz := by assumption) (hlh : l ≤ h := by omega) (hhc : h ≤ rows.length := by omega) : Rd Tryz.prog N E o F H (.c (.r (subV v l h sz) ((rows.take h).drop l))) := rd_slicer ho (KE ht) hx hrow hlo hhi hlh hhc
variable {Q : Exit → Fm → List OB → Prop} {ops : Array Oper}
def AM1 (P : Program) (N : Nat) (E : Env) (ops : Array Oper) (o : Oper) (i : Nat) (U : Option (List Nat)) (n : Nat) (ps : List Plan) (F : Fm) (H : List OB) (Q : Exit → Fm → List OB → Prop) : Prop := ops[i]? = some o → headsOf ps = [(i, U)] → AM P N E ops (n + 1) ps F H Q
theorem dkm {P : Program} {k i n : Nat} {U : Option (List Nat)} {ps : List Plan} (hh : headsOf ps = [(i, U)]) (hi : ops[i]? = some o) (ho : okc ops o F = some k) (h : KD k (AM1 P N E ops o i U n ps F H Q)) : AM P N E ops (n + 1) ps F H Q := (show AM1 P N E ops o i U n ps F H Q from h) hi hh
theorem am_rdg {P : Program} {i n d : Nat} {x : AV} {ps : List Plan} (hr : Rd P N E o F H x) (h : AM P N E ops n (tailsOf (i, none) ps) ((d, x) :: F) H Q) (hg : gok ops o F = true := by exact rfl) (hd : o.dst = some d := by exact rfl) (hN : d < N := by decide) : AM1 P N E ops o i none n ps F H Q := fun ho hh S ρ a w hR => by
 obtain ⟨h1, h2⟩ := hr S ρ a w hR
 refine wpM_r hh rfl ho fun K hK => ?_
 rw [if_pos (wanted_of (P := P) hg hR)]
 unfold Oper.still
 rw [h1]
 refine ⟨rfl, hK _ ?_⟩
 rw [hd]
 exact h S ρ _ w (hR.put hN h2)
theorem am_skip {P : Program} {i n d : Nat} {ps : List Plan} (hg : gd ops o F = some false) (hd : o.dst = some d) (hN : d < N) (h : AM P N E ops n (tailsOf (i, none) ps) ((d, un) :: F) H Q) : AM1 P N E ops o i none n ps F H Q := fun ho hh S ρ a w hR => by
 refine wpM_r hh rfl ho fun K hK => ?_
 have hw : ¬ Region.wanted o (yielded ops a.tmps) = true := by
  obtain ⟨j, b, oj, t, h1, h2, h3, ⟨b', h4, h5⟩ | ⟨h4, h5⟩⟩ := gd_of hg
  ·simp only [Region.wanted, h1, yielded_of hR h2 h3 h4]
   cases b <;> cases b' <;> simp_all
  ·simp [Region.wanted, h1, skipped_of hR h2 h3 h4]
 rw [if_neg hw, hd]
 exact hK _ (h S ρ _ w (hR.put hN (.c (.s _))))
theorem M5 {i n d : Nat} {v : AV} {ps : List Plan} (h : rdT N ops o F H = some (d, v)) (k : AM Tryz.prog N E ops n (tailsOf (i, none) ps) ((d, v) :: F) H Q) : AM1 Tryz.prog N E ops o i none n ps F H Q := by
 obtain ⟨h1, h2, ⟨rfl, h3⟩ | ⟨h3, h4⟩⟩ := rdT_of h
 ·exact am_skip h3 h1 h2 k
 ·exact am_rdg (rdV_of h4) k h3 h1 h2
theorem am_efg {P : Program} {F2 : Fm} {H2 : List OB} {i n : Nat} {U : List Nat} {ps : List Plan} (hr : Ef P N E o F H fun F' H' => F' = F2 ∧ H' = H2) (hU : ∀ j ∈ U, Ag P N E ops F2 H2 j) (h : AM P N E ops n (tailsOf (i, some U) ps) F2 H2 Q) (hg : gok ops o F = true := by exact rfl) : AM1 P N E ops o i (some U) n ps F H Q := fun ho hh S ρ a w hR => by
 refine wpM_e hh rfl ho fun K' hK => ?_
 rw [if_pos (wanted_of (P := P) hg hR)]
 refine effO_mono (fun a' w' hh => ?_) (hr S ρ a w hR)
 obtain ⟨S', ρ', F', H', ⟨h1, h2⟩, hR'⟩ := hh
 subst h1; subst h2
 exact hK _ _ (fun j hj => hU j hj S' ρ' a' w' hR') (h S' ρ' a' w' hR')
theorem WX3 {G A : Prop} (h : G) (hs : Hid G → A := by (intro h; refine dkm rfl rfl rfl ?_; (first | ((with_reducible refine kd 20 ?_); refine M5 rfl ?_) | ((with_reducible refine kd 4 ?_); first | refine M5 rfl ?_ | refine am_rdg YL ?_ | refine am_rdg YK ?_) | ((with_reducible refine kd 1 ?_); first | refine am_rdg Zeql ?_ | refine am_rdg Zadd ?_ | refine am_rdg Zlss ?_ | refine am_rdg Zneq ?_ | refine am_rdg Zsub ?_ | refine am_rdg Zmul ?_ | refine am_rdg Zgtr ?_ | refine am_rdg Zleq ?_ | refine am_rdg Zgeq ?_ | refine am_rdg Zquo ?_ | refine am_rdg Zquw ?_ | refine am_rdg Zrem ?_ | refine am_rdg Zrew ?_ | refine am_rdg Ynil ?_ | refine am_rdg Yeqb ?_ | refine am_rdg Yneb ?_) | ((with_reducible refine kd 2 ?_); first | refine am_efg Ysto (by (repeat first | exact ag_none | (refine ag_cons (by first | exact agT rfl rfl rfl rfl | exact agX (hr := YL) | exact agX (hr := YK) | exact agX (hr := YIj) | exact agX (hr := YJ) | exact agX (hr := YI) | exact agX (hr := Ybld) | exact agAdd | exact agSub | exact agMul | exact agX (hr := Ysli) | exact agX (hr := Yslr) | exact agX (hr := Zquo) | exact agX (hr := Zrem) | exact agX (hr := Zlss) | exact agX (hr := Zeql) | exact agX (hr := Zneq)) ?_))) ?_ | refine am_efg Ystr (by (repeat first | exact ag_none | (refine ag_cons (by first | exact agT rfl rfl rfl rfl | exact agX (hr := YL) | exact agX (hr := YK) | exact agX (hr := YIj) | exact agX (hr := YJ) | exact agX (hr := YI) | exact agX (hr := Ybld) | exact agAdd | exact agSub | exact agMul | exact agX (hr := Ysli) | exact agX (hr := Yslr) | exact agX (hr := Zquo) | exact agX (hr := Zrem) | exact agX (hr := Zlss) | exact agX (hr := Zeql) | exact agX (hr := Zneq)) ?_))) ?_) | ((with_reducible refine kd 3 ?_); first | refine am_rdg YI ?_ | refine am_rdg YJ ?_) | ((with_reducible refine kd 14 ?_); first | refine M5 rfl ?_ | refine am_rdg (rd_lens rfl Tryz.underlying9 rfl) ?_) | ((with_reducible refine kd 5 ?_); first | refine am_rdg Ysli ?_ | refine am_rdg Yslr ?_) | ((with_reducible refine kd 6 ?_); refine am_efg Ybsl (by (repeat first | exact ag_none | (refine ag_cons (by first | exact agT rfl rfl rfl rfl | exact agX (hr := YL) | exact agX (hr := YK) | exact agX (hr := YIj) | exact agX (hr := YJ) | exact agX (hr := YI) | exact agX (hr := Ybld) | exact agAdd | exact agSub | exact agMul | exact agX (hr := Ysli) | exact agX (hr := Yslr) | exact agX (hr := Zquo) | exact agX (hr := Zrem) | exact agX (hr := Zlss) | exact agX (hr := Zeql) | exact agX (hr := Zneq)) ?_))) ?_) | ((with_reducible refine kd 7 ?_); refine am_efg Yall (by (repeat first | exact ag_none | (refine ag_cons (by first | exact agT rfl rfl rfl rfl | exact agX (hr := YL) | exact agX (hr := YK) | exact agX (hr := YIj) | exact agX (hr := YJ) | exact agX (hr := YI) | exact agX (hr := Ybld) | exact agAdd | exact agSub | exact agMul | exact agX (hr := Ysli) | exact agX (hr := Yslr) | exact agX (hr := Zquo) | exact agX (hr := Zrem) | exact agX (hr := Zlss) | exact agX (hr := Zeql) | exact agX (hr := Zneq)) ?_))) ?_) | ((with_reducible refine kd 8 ?_); refine am_efg Zbox (by (repeat first | exact ag_none | (refine ag_cons (by first | exact agT rfl rfl rfl rfl | exact agX (hr := YL) | exact agX (hr := YK) | exact agX (hr := YIj) | exact agX (hr := YJ) | exact agX (hr := YI) | exact agX (hr := Ybld) | exact agAdd | exact agSub | exact agMul | exact agX (hr := Ysli) | exact agX (hr := Yslr) | exact agX (hr := Zquo) | exact agX (hr := Zrem) | exact agX (hr := Zlss) | exact agX (hr := Zeql) | exact agX (hr := Zneq)) ?_))) ?_) | ((with_reducible refine kd 9 ?_); refine am_rdg Ybld ?_) | ((with_reducible refine kd 10 ?_); refine am_rdg Yneg ?_) | ((with_reducible refine kd 11 ?_); refine am_rdg Ymkf ?_) | ((with_reducible refine kd 12 ?_); refine am_efg Ymak (by (repeat first | exact ag_none | (refine ag_cons (by first | exact agT rfl rfl rfl rfl | exact agX (hr := YL) | exact agX (hr := YK) | exact agX (hr := YIj) | exact agX (hr := YJ) | exact agX (hr := YI) | exact agX (hr := Ybld) | exact agAdd | exact agSub | exact agMul | exact agX (hr := Ysli) | exact agX (hr := Yslr) | exact agX (hr := Zquo) | exact agX (hr := Zrem) | exact agX (hr := Zlss) | exact agX (hr := Zeql) | exact agX (hr := Zneq)) ?_))) ?_) | ((with_reducible refine kd 13 ?_); first | refine am_rdg (rd_min2 (ty := 0) rfl rfl rfl) ?_ | refine am_rdg (rd_max2 rfl rfl rfl) ?_ | refine am_rdg (rd_min3 rfl rfl rfl rfl) ?_ | refine am_rdg (rd_max3 rfl rfl rfl rfl) ?_ | refine am_rdg (rd_min4 rfl rfl rfl rfl rfl) ?_)); exact h.out)) : A := hs ⟨h⟩
theorem WM {G A : Prop} (h : G) (hs : Hid G → A := by (intro h; (repeat refine WX3 ?_); exact h.out)) : A := hs ⟨h⟩
theorem WN {G A : Prop} (h : G) (hs : Hid G → A := by (intro h; (repeat refine WX3 ?_); refine am_nil ?_; (repeat with_reducible first | apply S1 | apply S2 | apply S3 | apply S4 | apply S5 | apply S6 | apply S7 | apply S8 | refine S0 rfl ?_ | apply SA | apply SB | apply SC); exact h.out)) : A := hs ⟨h⟩
theorem AGX {U : List Nat} (h : ∀ j ∈ U, Ag Tryz.prog N E ops F H j := by (repeat first | exact ag_none | (refine ag_cons (by first | exact agT rfl rfl rfl rfl | exact agX (hr := YL) | exact agX (hr := YK) | exact agX (hr := YIj) | exact agX (hr := YJ) | exact agX (hr := YI) | exact agX (hr := Ybld) | exact agAdd | exact agSub | exact agMul | exact agX (hr := Ysli) | exact agX (hr := Yslr) | exact agX (hr := Zquo) | exact agX (hr := Zrem) | exact agX (hr := Zlss) | exact agX (hr := Zeql) | exact agX (hr := Zneq)) ?_))) : ∀ j ∈ U, Ag Tryz.prog N E ops F H j := h
end
end Go.Proofs.YtlblimbelfenaaaGreat

/- The logic over values: an array that was lent may give way to one that is new. -/
namespace Go.Proofs.YtlblimbelfenaaaGreat
open Go Go.RowKit
section
variable {N : Nat} {E : Env} {F : Fm} {H : List OB} {K : Fm → List OB → Prop}
end
section
variable {P : Program} {N : Nat} {E : Env} {F : Fm} {H : List OB} {K : Fm → List OB → Prop} {Q : Exit → Fm → List OB → Prop} {ops : Array Oper}
end
end Go.Proofs.YtlblimbelfenaaaGreat

/- Arrays in the logic over values: an element of one, the address of an element, a literal, a slice of one. Conditions: none. -/
namespace Go.Proofs.YtlblimbelfenaaaGreat
open Go Go.RowKit
section
variable {P : Program} {N : Nat} {E : Env} {F : Fm} {H : List OB} {o : Oper} {S : Nat → Prop} {ρ : List (Option Nat)} {a : Act} {w : World}
def arrSz (P : Program) (t : TypeId) : Option (Nat × TypeId × Nat) :=
 match P.underlying t with
 | some (.array n e) => (P.info? e).map fun i => (n, e, i.size)
 | _ => none
theorem arrSz_spec {t e : TypeId} {n sz : Nat} (h : arrSz P t = some (n, e, sz)) : (underlying t).run P w = .ok (.array n e) w ∧ (sizeOf e).run P w = .ok sz w := by
 unfold arrSz at h
 cases hu : P.underlying t with
 | none => rw [hu] at h; cases h
 | some d =>
  rw [hu] at h
  cases d <;> simp only [reduceCtorEq] at h
  rename_i n' e'
  cases hi : P.info? e' with
  | none => rw [hi] at h; cases h
  | some i =>
   rw [hi] at h
   simp only [Option.map_some, Option.some.injEq, Prod.mk.injEq] at h
   obtain ⟨rfl, rfl, rfl⟩ := h
   exact ⟨by unfold underlying; simp [hu], by simp [sizeOf, typeInfo, hi]⟩
theorem rd_ixa {t e : TypeId} {x ix : Operand} {b k j n i sz : Nat} {kd : IntKind} {z : Int} (ho : o.op = .indexAddr t x ix) (ht : arrSz P t = some (n, e, sz)) (hx : ev F x = some (.p b k j)) (hix : ev F ix = some (.c (.s (.int kd z)))) (hz : z = i) (hi : i < n) :
    Rd P N E o F H (.p b k (j + i * sz)) := fun S ρ a w hR => by
 obtain ⟨h1, h2⟩ := hR.ev hx
 have h3 := (hR.ev hix).1
 simp only [AV.den, CV.den] at h3
 obtain ⟨hu, hs⟩ := arrSz_spec (w := w) ht
 cases h2 with
 | p g0 g =>
  obtain ⟨B, hB⟩ := Option.isSome_iff_exists.1 g
  refine ⟨?_, .p g0 g⟩
  simp only [execOp, ho, h1, h3, AV.den, hB, Option.map_some, hz, Sem.run_bind, Instr.indexAt, asIntOf, hu, Result.andThen_ok, Sem.run_pure, Instr.sureAddr]
  rw [if_pos (by omega)]
  simp only [Sem.run_bind, hs, Result.andThen_ok, Sem.run_pure, Int.toNat_natCast]
  unfold Addr.add
  split
  ·rename_i h0; rw [h0]; rfl
  ·simp only [Nat.add_assoc]
theorem rd_ixv {t e : TypeId} {x ix : Operand} {l : List AV} {n i sz : Nat} {kd : IntKind} {z : Int} (ho : o.op = .index t x ix) (ht : arrSz P t = some (n, e, sz)) (hk : ldk P e = some (some sz)) (hx : ev F x = some (.a l)) (hix : ev F ix = some (.c (.s (.int kd z)))) (hz : z = i) (hi : i < n) :
    Rd P N E o F H (.a ((l.drop (i * sz)).take sz)) := fun S ρ a w hR => by
 obtain ⟨h1, h2⟩ := hR.ev hx
 have h3 := (hR.ev hix).1
 simp only [AV.den, CV.den] at h3
 obtain ⟨hu, hs⟩ := arrSz_spec (w := w) ht
 cases h2 with
 | a g =>
  refine ⟨?_, .a fun y hy => g y (List.mem_of_mem_drop (List.mem_of_mem_take hy))⟩
  simp only [execOp, ho, h1, h3, AV.den, hz, Sem.run_bind, Instr.index, asIntOf, hu, Result.andThen_ok, Sem.run_pure]
  rw [if_pos (by omega)]
  have ha : (isAgg e).run P w = .ok true w := (ldk_some hk).1
  simp only [Sem.run_bind, hs, Result.andThen_ok, Sem.run_pure, Int.toNat_natCast, part, ha, if_true, AV.denL_eq]
  congr 3
  simp [List.extract_eq_take_drop]
def aplaces (P : Program) (t : TypeId) : Option (List (Nat × Nat)) := (arrSz P t).map fun q => (List.range q.1).map fun i => (i * q.2.2, q.2.2)
theorem bparts_fillg {pl : List (Nat × Nat)} {f : Nat → Option (Nat × Nat)} (hf : ∀ i x, pl[i]? = some x → f i = some x) {ps : List (Nat × Operand)} {l l' : List AV} (hR : R N E S ρ F H a w) (h : BParts F pl ps l l') (hw : ∀ x ∈ l, WF w S ρ H x) :
    Instr.fill f (l.map (AV.den ρ H)).toArray (ps.map fun x => (x.1, a.eval x.2)) = some (l'.map (AV.den ρ H)).toArray ∧ ∀ x ∈ l', WF w S ρ H x := by
 induction h with
 | nil => exact ⟨rfl, hw⟩
 | @cons i off k x v ps l l1 l2 h hp hk hl h1 he ht ih =>
  subst he
  obtain ⟨g1, g2⟩ := hR.ev h
  obtain ⟨e1, e2⟩ := cellsOf_spec g2 h1
  obtain ⟨q1, q2⟩ := ih (fun x hx => by
   rcases mem_putL hx with hx | hx
   ·exact (e2 x hx).1
   ·exact hw x hx)
  refine ⟨?_, q2⟩
  simp only [List.map_cons, Instr.fill, hf i _ hp, g1, e1, List.size_toArray, List.length_map, hk, ne_eq, not_true_eq_false, decide_false, Bool.false_or]
  rw [if_neg (by simp; omega), fill_foldl]
  simp only
  rw [setAll_putL (by omega)]
  exact q1
theorem rd_builda {t : TypeId} {ps : Array (Nat × Operand)} {z : Value} {vs : List Value} {pl : List (Nat × Nat)} {l' : List AV} (ho : o.op = .build t ps) (hz : (P.info? t).bind (·.zero) = some z) (hc : z.cells = vs.toArray) (hpl : aplaces P t = some pl)
    (hb : BParts F pl ps.toList (vs.map fun v => .c (cvOf v)) l') : Rd P N E o F H (.a l') := fun S ρ a w hR => by
 unfold aplaces at hpl
 cases hq : arrSz P t with
 | none => rw [hq] at hpl; cases hpl
 | some q =>
  obtain ⟨n, e, sz⟩ := q
  rw [hq] at hpl
  simp only [Option.map_some, Option.some.injEq] at hpl
  subst hpl
  obtain ⟨h1, h2⟩ := bparts_fillg (f := fun i => some (i * sz, sz)) (fun i x hx => by
   rw [List.getElem?_map] at hx
   cases hr : (List.range n)[i]? with
   | none => rw [hr] at hx; cases hx
   | some j =>
    rw [hr] at hx
    simp only [Option.map_some] at hx
    have : j = i := by
     have hlt := (List.getElem?_eq_some_iff.1 hr).1
     rw [List.getElem?_eq_getElem hlt] at hr
     simpa using hr.symm
    rw [← hx, this]) hR hb (fun x hx => by obtain ⟨v, _, rfl⟩ := List.mem_map.1 hx; exact .c (cvOf_good _ _ _))
  refine ⟨?_, .a h2⟩
  obtain ⟨hu, hs⟩ := arrSz_spec (w := w) hq
  have hzr : (zeroValue t).run P w = .ok z w := by
   unfold zeroValue typeInfo
   cases hi : P.info? t with
   | none => rw [hi] at hz; cases hz
   | some i => rw [hi] at hz; simp only [Option.bind_some] at hz; simp [hi, hz]
  have hpm : (ps.map fun x => (x.1, a.eval x.2)).toList = ps.toList.map fun x => (x.1, a.eval x.2) := by simp
  have hvs : z.cells = ((vs.map fun v => AV.c (cvOf v)).map (AV.den ρ H)).toArray := by rw [hc]; simp [Function.comp_def, AV.den, cvOf_den]
  simp only [execOp, ho, Instr.build, Sem.run_bind, hzr, Result.andThen_ok, hu, hs, hpm, hvs, h1, Sem.run_pure, AV.den, AV.denL_eq]

mutual
/-- Pointers to the block's cells, without rows. -/
def AV.nk (b : Nat) : AV → Bool
 | .p b' k _ => b' != b || k == 0
 | .a l => AV.nkL b l
 | .t l => AV.nkL b l
 | .f _ l => AV.nkL b l
 | _ => true
def AV.nkL (b : Nat) : List AV → Bool
 | [] => true
 | x :: l => AV.nk b x && AV.nkL b l
end
theorem AV.nkL_all {b : Nat} : ∀ {l : List AV}, AV.nkL b l = true → ∀ x ∈ l, AV.nk b x = true
 | y :: l, h, x, hx => by
  rw [AV.nkL, Bool.and_eq_true] at h
  rcases List.mem_cons.1 hx with rfl | hx
  ·exact h.1
  ·exact AV.nkL_all h.2 x hx
def OB.nk (b : Nat) : OB → Bool
 | .box l => AV.nkL b l
 | .eqv x _ => AV.nk b x
 | _ => true
theorem lookup_mem {d : Nat} {y : AV} : ∀ {F : Fm}, F.lookup d = some y → (d, y) ∈ F
 | (k, x) :: F, h => by
  rw [List.lookup_cons] at h
  split at h
  ·rename_i e
   injection h with h
   have : d = k := by simpa using e
   subst this; subst h; exact List.mem_cons_self
  ·exact List.mem_cons_of_mem _ (lookup_mem h)
theorem szAt_set {H : List OB} {b i : Nat} {ob : OB} (hb : b < H.length) : szAt (H.set b ob) i = if i = b then ob.sz else szAt H i := by
 unfold szAt
 rw [List.getElem?_set]
 by_cases h : b = i
 ·subst h; simp [hb]
 ·rw [if_neg h, if_neg (fun e => h e.symm)]
theorem capAt_set {H : List OB} {b i : Nat} {ob : OB} (hb : b < H.length) : capAt (H.set b ob) i = if i = b then ob.cap else capAt H i := by
 unfold capAt
 rw [List.getElem?_set]
 by_cases h : b = i
 ·subst h; simp [hb]
 ·rw [if_neg h, if_neg (fun e => h e.symm)]
theorem WF.setnk {b : Nat} {l : List AV} {ob : OB} (hH : H[b]? = some (.box l)) {x : AV} (h : WF w S ρ H x) (hk : x.nk b = true) : x.den ρ (H.set b ob) = x.den ρ H ∧ WF w S ρ (H.set b ob) x := by
 have hb : b < H.length := (List.getElem?_eq_some_iff.1 hH).1
 have hsz : szAt H b = 0 := by unfold szAt; rw [hH]; rfl
 have hcp : capAt H b = 0 := by unfold capAt; rw [hH]; rfl
 have hden : ∀ l : List AV, (∀ x ∈ l, x.den ρ (H.set b ob) = x.den ρ H) → AV.denL ρ (H.set b ob) l = AV.denL ρ H l := fun l hl => by
  rw [AV.denL_eq, AV.denL_eq]; exact List.map_congr_left hl
 induction h with
 | c g => exact ⟨rfl, .c g⟩
 | @p b' k j h0 h =>
  refine ⟨?_, .p (by simpa using h0) h⟩
  simp only [AV.den]
  rw [szAt_set hb]
  by_cases e : b' = b
  ·subst e
   simp only [AV.nk, bne_self_eq_false, Bool.false_or, beq_iff_eq] at hk
   subst hk; simp
  ·rw [if_neg e]
 | @o b' k n c h0 h1 h2 h3 =>
  by_cases e : b' = b
  ·subst e
   rw [hcp] at h2
   obtain rfl : k = 0 := by omega
   obtain rfl : c = 0 := by omega
   refine ⟨by simp [AV.den], .o (by simpa using h0) h1 (by omega) h3⟩
  ·refine ⟨?_, .o (by simpa using h0) h1 (by rw [capAt_set hb, if_neg e]; exact h2) h3⟩
   simp only [AV.den]
   rw [szAt_set hb, if_neg e]
 | q h1 h2 h3 => exact ⟨rfl, .q h1 h2 h3⟩
 | a h ih =>
  have hk' := AV.nkL_all (show AV.nkL b _ = true from hk)
  exact ⟨by rw [AV.den, AV.den, hden _ fun x hx => (ih x hx (hk' x hx)).1], .a fun x hx => (ih x hx (hk' x hx)).2⟩
 | t h ih =>
  have hk' := AV.nkL_all (show AV.nkL b _ = true from hk)
  exact ⟨by rw [AV.den, AV.den, hden _ fun x hx => (ih x hx (hk' x hx)).1], .t fun x hx => (ih x hx (hk' x hx)).2⟩
 | f h ih =>
  have hk' := AV.nkL_all (show AV.nkL b _ = true from hk)
  exact ⟨by rw [AV.den, AV.den, hden _ fun x hx => (ih x hx (hk' x hx)).1], .f fun x hx => (ih x hx (hk' x hx)).2⟩
 | mp h0 h => exact ⟨rfl, .mp (by simpa using h0) h⟩
theorem OwnB.setnk {b : Nat} {l : List AV} {ob o : OB} {m : Option Nat} (hH : H[b]? = some (.box l)) (h : OwnB w S ρ H o m) (hk : o.nk b = true) : OwnB w S ρ (H.set b ob) o m := by
 cases o with
 | box l' =>
  obtain ⟨B, t, h1, h2, h3⟩ := h
  have hk' := AV.nkL_all (show AV.nkL b _ = true from hk)
  have e : l'.map (AV.den ρ (H.set b ob)) = l'.map (AV.den ρ H) := List.map_congr_left fun x hx => ((h3 x hx).1.setnk hH (hk' x hx)).1
  exact ⟨B, t, h1, by rw [e]; exact h2, fun x hx => ⟨((h3 x hx).1.setnk hH (hk' x hx)).2, by rw [((h3 x hx).1.setnk hH (hk' x hx)).1]; exact (h3 x hx).2⟩⟩
 | eqv x v => exact ⟨by rw [(h.2.setnk hH hk).1]; exact h.1, (h.2.setnk hH hk).2⟩
 | arr => exact h
 | dead => trivial
 | map => exact h
 | itr =>
  obtain ⟨B, h1, h2, h3, h4⟩ := h
  exact ⟨B, h1, h2, by simpa using h3, h4⟩
 | sit => exact h
theorem R.boxarr {b n : Nat} {l : List CV} (hR : R N E S ρ F H a w) (hH : H[b]? = some (.box (l.map .c))) (hl : l.length = n) (hn : n ≤ maxLen) (hb : E.H0.length ≤ b) (hF : (F.all fun p => p.2.nk b) = true) (hK : (H.all (OB.nk b)) = true) : ∃ t', R N E S ρ F (H.set b (.arr t' 1 n (l.map fun u => [u]))) a w := by
 have hblt : b < H.length := (List.getElem?_eq_some_iff.1 hH).1
 obtain ⟨B, t', hB, hh, hcl⟩ := hR.hp.blk b _ hH
 refine ⟨t', ?_⟩
 refine ⟨hR.df, hR.sz, fun i y hy => ?_, ⟨by simpa using hR.hp.len, hR.hp.nd, hR.hp.ap, hR.hp.lt, hR.hp.sS, fun i ob hi => ?_⟩, hR.st, hR.nw, hR.nS, fun i hi => ?_, fun hp i hi => ?_⟩
 ·obtain ⟨q1, q2⟩ := hR.fr i y hy
  have hky : y.nk b = true := List.all_eq_true.1 hF _ (lookup_mem hy)
  exact ⟨by rw [(q2.setnk hH hky).1]; exact q1, (q2.setnk hH hky).2⟩
 ·rw [List.getElem?_set] at hi
  split at hi
  ·rename_i e1
   subst e1
   try rw [if_pos hblt] at hi
   injection hi with hi
   subst hi
   refine .inr ⟨B, ((l.map AV.c).map (AV.den ρ H)).toArray, hB, hh, by simp [hl], hn, by simp [hl], fun row hr => ?_, fun k j row u hk hj => ?_⟩
   ·obtain ⟨u, hu', rfl⟩ := List.mem_map.1 hr
    refine ⟨rfl, fun v hv => ?_⟩
    rw [List.mem_singleton.1 hv]
    have := hcl (.c u) (List.mem_map.2 ⟨u, hu', rfl⟩)
    refine ⟨?_, this.2⟩
    cases this.1 with
    | c g => exact g
   ·rw [List.getElem?_map] at hk
    cases hq : l[k]? with
    | none => rw [hq] at hk; cases hk
    | some v =>
     rw [hq] at hk
     simp only [Option.map_some, Option.some.injEq] at hk
     subst hk
     cases j with
     | succ j => simp at hj
     | zero =>
      simp only [List.getElem?_cons_zero, Option.some.injEq] at hj
      subst hj
      simp [hq, AV.den]
  ·exact (hR.hp.blk i ob hi).setnk hH (List.all_eq_true.1 hK _ (List.mem_of_getElem? hi))
 ·obtain ⟨q1, q2⟩ := hR.ln i hi
  refine ⟨by simpa using q1, fun o1 ho1 hs1 => ?_⟩
  obtain ⟨q3, o2, q4, q5⟩ := q2 o1 ho1 hs1
  exact ⟨q3, o2, by rw [List.getElem?_set, if_neg (by omega)]; exact q4, q5⟩
 ·obtain ⟨q1, q2, q3⟩ := hR.pn hp i hi
  exact ⟨q1, by rw [szAt_set hblt, if_neg (by omega)]; exact q2, by rw [capAt_set hblt, if_neg (by omega)]; exact q3⟩
theorem aw_boxarr {c : Code} {Q : Exit → Fm → List OB → Prop} (b n : Nat) (l : List CV) (hH : H[b]? = some (.box (l.map .c))) (hl : l.length = n) (hn : n ≤ maxLen) (hb : E.H0.length ≤ b) (hF : (F.all fun p => p.2.nk b) = true) (hK : (H.all (OB.nk b)) = true) (h : ∀ t', AW P N E c F (H.set b (.arr t' 1 n (l.map fun u => [u]))) Q) : AW P N E c F H Q := fun S ρ a w hR => by
 obtain ⟨t', h'⟩ := hR.boxarr hH hl hn hb hF hK
 exact h t' S ρ a w h'
theorem rd_slicearr {t e e' : TypeId} {x : Operand} {b n : Nat} {rows : List (List CV)} (ho : o.op = .slice t x none none none) (ht : arrSz P t = some (n, e, 1)) (hx : ev F x = some (.p b 0 0)) (hH : H[b]? = some (.arr e' 1 n rows)) : Rd P N E o F H (.o b 0 n n) := fun S ρ a w hR => by
 obtain ⟨h1, h2⟩ := hR.ev hx
 obtain ⟨hu, hs⟩ := arrSz_spec (w := w) ht
 cases h2 with
 | p g0 g =>
  obtain ⟨B, hB⟩ := Option.isSome_iff_exists.1 g
  refine ⟨?_, .o g0 (Nat.le_refl _) (by unfold capAt; rw [hH]; simp [OB.cap]) (fun h => by rw [hB] at h; cases h)⟩
  simp only [execOp, ho, h1, AV.den, hB, Option.map_some, Option.map_none, Nat.zero_mul, Nat.add_zero, Sem.run_bind, Instr.sliceAt, hu, Result.andThen_ok, Instr.sureAddr, Sem.run_pure, Instr.sliceBounds, hs]
  simp
  try (intro _; rfl)
end
end Go.Proofs.YtlblimbelfenaaaGreat
