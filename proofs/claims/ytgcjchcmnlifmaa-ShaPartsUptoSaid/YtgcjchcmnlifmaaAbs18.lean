/- A region that draws its order comes to what it comes to in the text's order. -/
import Derived.Test.YtgcjchcmnlifmaaAbs18d
namespace Go.Abs
open Go

section
variable {P : Program} {sp : Specs} {ops : Array Oper}

theorem count_set_true {l : List Bool} : ∀ {i : Nat}, l[i]? = some false → (l.set i true).count false + 1 = l.count false := by
  induction l with
  | nil => intro i h; simp at h
  | cons b l ih =>
    intro i h
    cases i with
    | zero => simp at h; subst h; simp
    | succ i =>
      simp at h
      have := ih h
      simp only [List.set_cons_succ, List.count_cons]
      omega

theorem count_zero {l : List Bool} (h : l.count false = 0) : ∀ i, i < l.length → l[i]? = some true := by
  intro i hi
  have h1 : l[i]? = some l[i] := List.getElem?_eq_getElem hi
  rw [h1]
  cases hb : l[i] with
  | true => rfl
  | false =>
    have hm : false ∈ l := by rw [← hb]; exact List.getElem_mem hi
    have := List.count_pos_iff.2 hm
    omega

section
variable {E0 : Env} {w0 : World} {frs : Nat → List AVal} {Hs : Nat → AHeap} {vs : Nat → AVal} {Q : Exit → Act → World → Prop}

theorem frame_agree {L : List Oper} (T : Trace P sp ops L frs Hs vs) : ∀ k, k ≤ L.length → Agree (L.filterMap (·.dst)) (frs 0) (frs k) := by
  intro k
  induction k with
  | zero => intro _; exact Agree.refl _ _
  | succ k ih =>
    intro hk
    have ho : L[k]? = some L[k] := List.getElem?_eq_getElem (by omega)
    rw [T.put k _ ho]
    exact (ih (by omega)).trans (Agree.put _ _ _ fun d hd => List.mem_filterMap.2 ⟨_, List.getElem_mem (by omega), hd⟩)

theorem frD_none {L : List Oper} {fr : List AVal} {D : Nat → Bool} (h : ∀ i, i < L.length → D i = false) : ∀ k, k ≤ L.length → frD L vs fr D k = fr := by
  intro k
  induction k with
  | zero => intro _; rfl
  | succ k ih => intro hk; simp only [frD, h k (by omega), cond_false]; exact ih (by omega)

theorem range_of {Hs : Nat → AHeap} (n : Nat) : ∀ x, (Hs 0).length ≤ x → x < (Hs n).length → ∃ i, i < n ∧ (Hs i).length ≤ x ∧ x < (Hs (i + 1)).length := by
  induction n with
  | zero => intro x h1 h2; omega
  | succ n ih =>
    intro x h1 h2
    by_cases h : x < (Hs n).length
    · obtain ⟨i, g1, g2⟩ := ih x h1 h; exact ⟨i, by omega, g2⟩
    · exact ⟨n, by omega, by omega, h2⟩

theorem draw_go (hsp : SpecsOk P sp) (hd : drawOk P sp ops = true) (R : Tr P sp ops E0 w0 ops.toList frs Hs vs)
    (hq : ∀ E w a, RelW E w → RelF E (frs ops.toList.length) a → a.defers = [] → Ext E0 w0 E w → E.H = Hs ops.toList.length → Q .normal a w) :
    ∀ (fuel : Nat) (listed : Array Bool) (e : Nat) (E : Env) (w : World) (a : Act), listed.size = ops.size → listed.toList.count false = fuel →
      Closed ops.toList (fun i => listed.getD i false = true) → St P sp E0 w0 ops.toList frs Hs vs (fun i => listed.getD i false) e E w a → wpAny P .any ops Q fuel listed a w := by
  have stop : ∀ (listed : Array Bool) (e : Nat) (E : Env) (w : World) (a : Act), listed.size = ops.size → St P sp E0 w0 ops.toList frs Hs vs (fun i => listed.getD i false) e E w a →
      (∀ i, i < ops.size → listed.getD i false = true) → Q .normal a w := by
    intro listed e E w a hsz s hall
    have hn : ops.toList.length = ops.size := by simp
    have he : e = ops.toList.length := by
      refine Classical.byContradiction fun h => ?_
      have hlt : e < ops.toList.length := by have := s.le; omega
      have := (s.here _ (List.getElem?_eq_getElem hlt)).2
      rw [hall e (by omega)] at this; cases this
    have hfr := s.fr
    rw [frD_all R.T (fun i hi => hall i (by omega))] at hfr
    refine hq E w a s.rel hfr s.defers ⟨s.ext, fun i hs hi => ?_, fun i h1 h2 => ?_⟩ (by rw [s.heap, he])
    · rcases s.news i hs hi with h | ⟨k, g1, g2, g3, g4⟩
      · exact .inl h
      · right
        have := R.mono' 0 k (Nat.zero_le _) (Nat.le_of_lt g1)
        rw [← R.zero] at this
        omega
    · rw [s.heap, he] at h2
      rw [R.zero] at h1
      obtain ⟨k, g1, g2, g3⟩ := range_of (Hs := Hs) _ i h1 h2
      exact (s.full k i g1 (hall k (by omega)) g2 g3).1
  intro fuel
  induction fuel with
  | zero =>
    intro listed e E w a hsz hc _ s
    have hall : ∀ i, i < ops.size → listed.getD i false = true := by
      intro i hi
      have := count_zero hc i (by simpa [hsz] using hi)
      have h2 : listed[i]? = some true := by simpa using this
      simp [h2]
    refine ⟨?_, stop listed e E w a hsz s hall⟩
    refine List.eq_nil_iff_forall_not_mem.2 fun j hj => ?_
    obtain ⟨g1, o, g2, _⟩ := mem_ready.1 hj
    have hjs : j < ops.size := (Array.getElem?_eq_some_iff.1 g2).1
    have := hall j hjs
    have hjl : j < listed.size := by omega
    simp [hjl] at g1 this
    rw [g1] at this; cases this
  | succ fuel ih =>
    intro listed e E w a hsz hc hcl s
    refine ⟨fun hr => ?_, fun j hj => ?_⟩
    · refine stop listed e E w a hsz s fun i hi => ?_
      refine Classical.byContradiction fun hne => ?_
      have key : ∀ n i, i < n → i < ops.size → listed.getD i false = false → False := by
        intro n
        induction n with
        | zero => intro i hi; omega
        | succ n ihn =>
          intro i hi his hf
          have : i ∈ Region.ready .any ops listed := by
            refine mem_ready.2 ⟨?_, ops[i], Array.getElem?_eq_getElem his, fun ed hed hb => ?_⟩
            · have hil : i < listed.size := by omega
              simp [hil] at hf ⊢; exact hf
            · have hlt := drawOk_edges hd i ops[i] (by simp [his]) ed (by simpa using hed) hb
              cases hh : listed.getD ed.on false with
              | true => rfl
              | false => exact (ihn ed.on (by omega) (by omega) hh).elim
          rw [hr] at this; cases this
      exact key (i + 1) i (by omega) hi (by simpa using hne)
    · obtain ⟨g1, o, g2, g3⟩ := mem_ready.1 hj
      have hjs : j < ops.size := (Array.getElem?_eq_some_iff.1 g2).1
      have hjl : j < listed.size := by omega
      have hjf : listed[j]? = some false := by
        simp [hjl] at g1 ⊢; exact g1
      have hjD : listed.getD j false = false := by simp [hjf]
      have ho : ops.toList[j]? = some o := by simpa using g2
      have hD' : ∀ i, (listed.setIfInBounds j true).getD i false = (listed.getD i false || Nat.beq i j) := by
        intro i
        by_cases hij : i = j
        · subst hij
          have : (listed.setIfInBounds i true)[i]? = some true := by simp [hjl]
          simp [this]
        · rw [Go.getD_set_ne false (Ne.symm hij)]; simp [hij]
      have hcl' : Closed ops.toList (fun i => (listed.setIfInBounds j true).getD i false = true) := by
        intro i oi hDi hoi ed hed hb
        simp only [hD', Bool.or_eq_true] at hDi ⊢
        rcases hDi with hDi | hDi
        · exact .inl (hcl i oi hDi hoi ed hed hb)
        · have : i = j := by simpa using hDi
          subst this
          rw [ho] at hoi; cases hoi
          exact .inl (g3 ed (by simpa using hed) hb)
      have A : At P sp ops ops.toList (fun i => listed.getD i false) (fun i => (listed.setIfInBounds j true).getD i false) j o := by
        refine ⟨ho, hjD, hD', fun i oi hi hoi => ?_, fun i oi hi hoi => ?_⟩
        · rcases drawOk_spec hd i j oi o hi hoi ho with h | h
          · have := h _ hcl' (by simp only [hD']; simp)
            simp only [hD', Bool.or_eq_true] at this
            rcases this with h | h
            · exact .inl h
            · have : i = j := by simpa using h
              omega
          · exact .inr h
        · rcases drawOk_spec hd j i o oi hi ho hoi with h | h
          · left
            cases hh : listed.getD i false with
            | false => rfl
            | true =>
              have := h _ hcl hh
              rw [hjD] at this; cases this
          · exact .inr h
      have hc' : (listed.setIfInBounds j true).toList.count false = fuel := by
        have := count_set_true (l := listed.toList) (i := j) (by simpa using hjf)
        rw [Array.toList_setIfInBounds]
        omega
      obtain ⟨k1, k2⟩ := st_step R hsp A s Q
      unfold wpOp
      simp only [g2]
      cases hw : Region.wanted o (yielded ops a.tmps) with
      | true =>
        simp only [if_true]
        left
        refine Oper.wp_mono (fun a' w' ⟨e', E', s'⟩ => ?_) (k1 hw)
        exact ih _ e' E' w' a' (by simpa using hsz) hc' hcl' s'
      | false =>
        simp only [Bool.false_eq_true, if_false]
        obtain ⟨e', E', s'⟩ := k2 hw
        exact ih _ e' E' w _ (by simpa using hsz) hc' hcl' s'
end

theorem draw_sound (hsp : SpecsOk P sp) (hm : P.follows .mixedOrders = true) : DrawSound P sp := by
  intro id ops fr H K E w a Q hd h hH hw hf hdf hq
  refine wp_region_any hm ?_
  obtain ⟨frs, Hs, vs, t1, t2, t3, T⟩ := trace_of ops.toList fr H K h
  have hw0 : RelW E { w with drawn := w.drawn + 1 } := ⟨fun i o hs ho => by
    have x : Sub E w E { w with drawn := w.drawn + 1 } := ⟨Nat.le_refl _, fun _ _ _ => Nat.le_refl _, fun _ _ _ h => ⟨h, rfl, fun _ => rfl⟩, fun _ _ _ _ => ⟨rfl, rfl, _root_.id⟩, fun _ _ h => h⟩
    exact RelObj.ext0 x rfl rfl rfl (hw.obj i o hs ho), hw.inj⟩
  have hf0 : RelF E (frs 0) a := by rw [t1]; exact hf
  have R := tr_of hsp T (E0 := E) (by rw [hH, t2]) hw0 hf0
  have x0 : Ext E w E { w with drawn := w.drawn + 1 } :=
    ⟨⟨⟨Nat.le_refl _, fun _ _ _ => Nat.le_refl _, fun _ _ _ h => ⟨h, rfl, fun _ => rfl⟩, fun _ _ _ _ => ⟨rfl, rfl, _root_.id⟩, fun _ _ h => h⟩, fun _ _ _ => rfl,
      fun _ h h' => .inl ⟨h, h', rfl⟩, rfl, rfl, rfl, Nat.le_refl _, fun _ _ _ => rfl⟩, fun _ h h' => .inl ⟨h', h⟩, fun _ h h' => by omega⟩
  obtain ⟨e, n1, n2, n3, n4⟩ := next_write (P := P) (sp := sp) ops.toList 0 (Nat.zero_le _)
  have hp : E.H <+: Hs e := by rw [hH, ← t2]; exact R.pre' 0 e n1 n2 n3
  have x := adv_ext (w := { w with drawn := w.drawn + 1 }) hp
  have hD0 : ∀ i, (Array.replicate ops.size false).getD i false = false := by
    intro i
    by_cases hi : i < ops.size
    · simp [hi]
    · simp [hi]
  refine draw_go hsp hd R (fun E' w' a' h1 h2 h3 h4 h5 => ?_) ops.size (Array.replicate ops.size false) e (E.adv (Hs e)) _ a (by simp) (by simp) (fun j o hj => ?_) ?_
  · refine hq E' (frs ops.toList.length) a' w' (by rw [h5]; exact t3) h1 h2 h3 (x0.trans h4) ?_
    rw [← t1]
    exact frame_agree T _ (Nat.le_refl _)
  · simp only [hD0] at hj; cases hj
  · refine ⟨adv_rel hw0 hp, ?_, hdf, x, n2, rfl, fun i o hi ho hk => absurd hk (n3 i o (Nat.zero_le _) hi ho), fun o ho => ⟨n4 o ho, hD0 e⟩, fun y hy hyl => .inl ⟨hy.2, hy.1⟩, fun i y hi hDi => by simp only [hD0] at hDi; cases hDi⟩
    rw [frD_none (fun i _ => hD0 i) _ (Nat.le_refl _)]
    exact RelL.ext0 x.toSub hf0
end
end Go.Abs
