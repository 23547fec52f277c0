/-
  Soundness of regions whose operations run in the order of the text.
-/
import Derived.Test.YtlgfgcadoocgoaaFwJ
namespace Go.Fw
set_option linter.unusedSimpArgs false
set_option linter.unusedVariables false
open Go.RowKit

section
variable {P : Program} {nt : Nat} {ops : Array Oper} {slots : List (Nat × AVal)}

theorem PutK_some {rs : RSt} {cur : Option Tag} {dst : Option Tmp} {v : AVal} {Kt : RSt → Prop} (h : PutK nt rs cur dst v Kt) : ∃ rs', putR nt rs cur dst v = some rs' ∧ Kt rs' := by
  unfold PutK at h
  split at h
  · rename_i rs' hr; exact ⟨rs', hr, h⟩
  · exact h.elim

theorem armA_sound {K : Ctx} {rs : RSt} {a : Act} {w : World} (h : RSat nt ops slots K rs a w) (cur : Option Tag) (hc : ∀ c, cur = some c → findG rs.G c = some true) (jc : Option Nat) (want : Bool)
    (hj : ∀ j b, jc = some j → findG rs.G (j, want) = some b → b = true) (x : Operand) : Rep K (armA ops slots rs.loc cur jc want x) (a.eval x) := by
  cases x with
  | tmp t =>
    simp only [armA]
    split
    · rename_i g v j hf
      cases ht : tagEq g (j, want) with
      | false => exact lookR_sound h cur hc (.tmp t)
      | true =>
        have := tagEq_iff.1 ht
        subst this
        obtain ⟨b, hb, h1, _⟩ := h.tagged t _ v hf
        exact h1 (hj j b rfl hb)
    · exact lookR_sound h cur hc (.tmp t)
  | const v => exact lookR_sound h cur hc (.const v)
  | global g => exact lookR_sound h cur hc (.global g)
  | func f => exact lookR_sound h cur hc (.func f)

theorem defOf_some {t : Tmp} {j : Nat} (h : defOf ops t = some j) : ∃ o, ops[j]? = some o ∧ o.dst = some t := by
  unfold defOf at h
  rw [List.findIdx?_eq_some_iff_getElem] at h
  obtain ⟨hlt, hp, _⟩ := h
  simp only [Array.length_toList] at hlt
  refine ⟨ops[j], by simp [hlt], ?_⟩
  simp only [Array.getElem_toList] at hp
  split at hp
  · rename_i d hd; rw [hd, Nat.eq_of_beq_eq_true hp]
  · cases hp

theorem pickA_sound {K : Ctx} {rs : RSt} {a : Act} {w : World} (h : RSat nt ops slots K rs a w) (cur : Option Tag) (hc : ∀ c, cur = some c → findG rs.G c = some true) {c x y : Operand} {v : AVal}
    (hp : pickA ops slots rs cur c x y = some v) {o : Oper} (ho : o.op = .pick c x y) : ∃ u, (execOp a.eval o).run P w = .ok (.value u) w ∧ Rep K v u := by
  unfold pickA at hp
  split at hp
  · rename_i tc
    split at hp
    · rename_i b q hb hq
      have hcb := rep_lit (hb ▸ lookR_sound h cur hc (.tmp tc))
      -- the guard on the condition holds where the condition does
      have guard : ∀ (want : Bool), b = want → ∀ j b', defOf ops tc = some j → findG rs.G (j, want) = some b' → b' = true := by
        intro want hw j b' hj hG
        obtain ⟨o', ho', hd'⟩ := defOf_some hj
        have := (h.guards _ _ hG).1
        rw [← this]
        have hv : a.tmps[tc]? = some (.bool b) := by
          simp only [Act.eval] at hcb
          rcases Nat.lt_or_ge tc a.tmps.size with h' | h'
          · rw [Array.getElem?_eq_getElem h']; simpa [h'] using hcb
          · simp [Array.getElem?_eq_none h', undef] at hcb
        simp only [yielded, ho', hd', Option.bind_some, hv, hw]
        cases want <;> rfl
      have run : ∀ u, (if b = true then a.eval x else a.eval y) = u → (execOp a.eval o).run P w = .ok (.value u) w := by
        intro u hu
        subst hu
        simp only [execOp, ho, hcb, asBool, Sem.run_bind, Sem.run_pure, Result.andThen_ok]
      split at hp
      · split at hp
        · rename_i v' hv'
          simp only [Option.some.injEq] at hp
          subst hp
          refine ⟨_, run _ rfl, ?_⟩
          cases b with
          | true => simp only [if_true, Bool.true_or]; exact .lit _
          | false =>
            simp only [Bool.false_eq_true, if_false, Bool.false_or]
            rw [← hv']
            exact armA_sound h cur hc _ false (guard false rfl) _
        · cases hp
      · split at hp
        · rename_i u' hu'
          simp only [Option.some.injEq] at hp
          subst hp
          refine ⟨_, run _ rfl, ?_⟩
          cases b with
          | true =>
            simp only [if_true, Bool.true_and]
            rw [← hu']
            exact armA_sound h cur hc _ true (guard true rfl) _
          | false => simp only [Bool.false_eq_true, if_false, Bool.false_and]; exact .lit _
        · cases hp
      · cases hp
    · cases hp
  · cases hp

/-- What stands behind an operation. -/
def Next' (nt : Nat) (ops : Array Oper) (slots : List (Nat × AVal)) (K : Ctx) (Kt : RSt → Prop) (a : Act) (w : World) : Prop := ∃ K' rs', Ctx.le K K' ∧ RSat nt ops slots K' rs' a w ∧ Kt rs'

theorem stepOp_sound {K : Ctx} {rs : RSt} {a : Act} {w : World} {o : Oper} {cur : Option Tag} {gb draw : Bool} {Kt : RSt → Prop} {Q : Exit → Act → World → Prop} (h : RSat nt ops slots K rs a w)
    (hcur : match cur with | none => gb = true | some c => findG rs.G c = some gb) (hw : Region.wanted o (yielded ops a.tmps) = gb) (hs : stepOp P nt ops slots draw o cur gb rs Kt) :
    if Region.wanted o (yielded ops a.tmps) then o.wp P a w (Next' nt ops slots K Kt) Q ∨ (o.asks P a w ∧ LetsOut Q) else Next' nt ops slots K Kt (a.put o.dst undef) w := by
  rw [hw]
  cases gb with
  | false =>
    simp only [Bool.false_eq_true, if_false]
    obtain ⟨c, rfl⟩ : ∃ c, cur = some c := by cases cur with | none => cases hcur | some c => exact ⟨c, rfl⟩
    simp only at hcur
    have fin : ∀ v, PutK nt rs (some c) o.dst v Kt → Next' nt ops slots K Kt (a.put o.dst undef) w := by
      intro v hp
      obtain ⟨rs', hr, hk⟩ := PutK_some hp
      exact ⟨K, rs', .refl K, h.put hr ⟨false, hcur, (fun h => by cases h), fun _ => rfl⟩, hk⟩
    unfold stepOp at hs
    split at hs
    · split at hs
      · exact fin _ hs
      · exact hs.elim
    · split at hs
      · exact hs.elim
      · exact fin _ hs
      · exact fin _ hs.2
      · exact hs.elim
      · exact hs.elim
      · split at hs
        · rename_i heq; cases heq
        · obtain ⟨r, _, hp⟩ := hs; exact fin _ hp
  | true =>
    simp only [if_true]
    left
    have hc : ∀ c, cur = some c → findG rs.G c = some true := by rintro c rfl; exact hcur
    have put : ∀ {L : Ctx} {w' : World} {objs' : Objs} {v : AVal} {u : Value}, K.le L → MemSat L objs' w' → Rep L v u → PutK nt { rs with objs := objs' } cur o.dst v Kt → Next' nt ops slots K Kt (a.put o.dst u) w' := by
      intro L w' objs' v u hKL hm hr hp
      obtain ⟨rs', hpr, hk⟩ := PutK_some hp
      refine ⟨L, rs', hKL, (h.mono hKL hm).put hpr ?_, hk⟩
      cases cur with
      | none => exact hr
      | some c => exact ⟨true, hc c rfl, fun _ => hr, fun h => by cases h⟩
    have does : ∀ {v : AVal} {objs' : Objs}, Does P (execOp a.eval o) w K objs' v → PutK nt { rs with objs := objs' } cur o.dst v Kt → o.wp P a w (Next' nt ops slots K Kt) Q := by
      rintro v objs' ⟨u, w', K', hrun, hle, hm, hr⟩ hp
      unfold Oper.wp
      rcases hrun with hrun | ⟨hrun, rfl⟩
      · rw [hrun]; exact put hle hm hr hp
      · rw [hrun]; exact put hle hm hr hp
    have same : rs = { rs with objs := rs.objs } := rfl
    unfold stepOp at hs
    split at hs
    · rename_i c x y hop
      split at hs
      · rename_i v hv
        obtain ⟨u, hu, hr⟩ := pickA_sound (P := P) h cur hc hv hop
        exact does ⟨u, w, K, .inl hu, .refl K, h.mem, hr⟩ hs
      · exact hs.elim
    · have hsound := evalOp_sound (P := P) h.mem (lookR_sound h cur hc) o
      split at hs
      · exact hs.elim
      · rename_i v he
        rw [he] at hsound
        exact does hsound hs
      · rename_i b v he
        rw [he] at hsound
        exact does (hsound (hs.1 rfl)) hs.2
      · rename_i b v objs' he
        rw [he] at hsound
        split at hs
        · exact does (hsound hs.1) hs.2
        · exact hs.elim
      · rename_i v objs' he
        rw [he] at hsound
        split at hs
        · exact does hsound hs
        · exact hs.elim
      · rename_i f args he
        rw [he] at hsound
        obtain ⟨vs, hrun, hreps⟩ := hsound
        have callOf : ∀ {R : AVal → Objs → Prop}, ACalls P f args rs.objs R → (∀ r objs', R r objs' → PutK nt { rs with objs := objs' } cur o.dst r Kt) → o.wp P a w (Next' nt ops slots K Kt) Q := by
          intro R hcall hR
          unfold Oper.wp
          rw [hrun]
          refine (hcall K w vs h.mem hreps).mono ?_
          rintro e w' ⟨v, r, objs', K', rfl, hle, hm, hr, hRr⟩
          exact put hle hm hr (hR r objs' hRr)
        split at hs
        · exact callOf hs fun r objs' hr => hr
        · obtain ⟨r, hg, hp⟩ := hs
          exact callOf (hg rfl) fun r' objs' ⟨e1, e2⟩ => by subst e1 e2; exact hp

theorem stepOp_mono {rs : RSt} {o : Oper} {cur : Option Tag} {gb draw : Bool} {Kt Kt' : RSt → Prop} (hk : ∀ r, Kt r → Kt' r) (hs : stepOp P nt ops slots draw o cur gb rs Kt) : stepOp P nt ops slots draw o cur gb rs Kt' := by
  have put : ∀ {rs : RSt} {c : Option Tag} {v : AVal}, PutK nt rs c o.dst v Kt → PutK nt rs c o.dst v Kt' := by
    intro rs c v hp
    obtain ⟨rs', hr, h⟩ := PutK_some hp
    unfold PutK; rw [hr]; exact hk _ h
  unfold stepOp at *
  split
  · rename_i c x y hop
    simp only [hop] at hs
    split
    · rename_i v hv; simp only [hv] at hs; exact put hs
    · rename_i hv; simp only [hv] at hs
  · rename_i hne
    split at hs
    · rename_i c x y hop; exact absurd hop (hne c x y)
    · split
      · rename_i he; simp only [he] at hs
      · rename_i v he; simp only [he] at hs; exact put hs
      · rename_i b v he; simp only [he] at hs; exact ⟨hs.1, put hs.2⟩
      · rename_i b v o' he
        simp only [he] at hs
        split
        · exact ⟨hs.1, put hs.2⟩
        · exact hs
      · rename_i v o' he
        simp only [he] at hs
        split
        · exact put hs
        · exact hs
      · rename_i f args he
        simp only [he] at hs
        split
        · exact hs.mono fun r o' hr => put hr
        · rename_i hne2
          split at hs
          · rename_i h1 h2; exact (hne2 rfl rfl).elim
          · obtain ⟨r, h1, h2⟩ := hs; exact ⟨r, h1, put h2⟩

/-- A region in the order of the text. -/
theorem awpOps_sound {Q : Exit → Act → World → Prop} {draw : Bool} {K0 : Ctx} {Kt : RSt → Prop} (hQ : ∀ K rs a w, K0.le K → RSat nt ops slots K rs a w → Kt rs → Q .normal a w) :
    ∀ (n i : Nat), i + n = ops.size → ∀ (K : Ctx) (rs : RSt) (a : Act) (w : World), K0.le K → RSat nt ops slots K rs a w → awpOps P nt ops slots draw (ops.toList.drop i) rs Kt →
      wpOps P ops Q (List.range' i n) a w
  | 0, i, hn, K, rs, a, w, hK, h, ha => by
    have : ops.toList.drop i = [] := List.drop_eq_nil_of_le (by simp; omega)
    rw [this] at ha
    exact hQ K rs a w hK h ha
  | n + 1, i, hn, K, rs, a, w, hK, h, ha => by
    have hlt : i < ops.toList.length := by simp; omega
    rw [List.drop_eq_getElem_cons hlt] at ha
    have hi : ops[i]? = some (ops.toList[i]) := by simp
    generalize ops.toList[i] = o at ha hi
    simp only [List.range'_succ]
    rw [wpOps_cons]
    unfold wpOp
    simp only [hi]
    have ih : ∀ a w, Next' nt ops slots K (fun rs' => awpOps P nt ops slots draw (ops.toList.drop (i + 1)) rs' Kt) a w → wpOps P ops Q (List.range' (i + 1) n) a w := by
      rintro a w ⟨K', rs', hle, hr, hk⟩
      exact awpOps_sound hQ n (i + 1) (by omega) K' rs' a w (hK.trans hle) hr hk
    have fin : ∀ {X : Prop} [Decidable X], (if X then o.wp P a w (Next' nt ops slots K (fun rs' => awpOps P nt ops slots draw (ops.toList.drop (i + 1)) rs' Kt)) Q ∨ (o.asks P a w ∧ LetsOut Q) else Next' nt ops slots K (fun rs' => awpOps P nt ops slots draw (ops.toList.drop (i + 1)) rs' Kt) (a.put o.dst undef) w) →
        (if X then o.wp P a w (wpOps P ops Q (List.range' (i + 1) n)) Q ∨ (o.asks P a w ∧ LetsOut Q) else wpOps P ops Q (List.range' (i + 1) n) (a.put o.dst undef) w) := by
      intro X _ hX
      split
      · rename_i hx; rw [if_pos hx] at hX; exact hX.imp (Oper.wp_mono ih) id
      · rename_i hx; rw [if_neg hx] at hX; exact ih _ _ hX
    apply fin
    simp only [awpOps] at ha
    split at ha
    · rename_i hg
      exact stepOp_sound h rfl (by simp [Region.wanted, hg]) ha
    · rename_i g hg
      split at ha
      · rename_i gb rs1 hgo
        obtain ⟨h1, h2, _, _, hy⟩ := gOf_sound h hgo
        exact stepOp_sound h1 h2 (by simp only [Region.wanted, hg]; exact hy) ha
      · exact ha.elim

theorem getSlot_cons {i t : Nat} {v : AVal} {r : List (Nat × AVal)} : getSlot ((i, v) :: r) t = if i = t then v else getSlot r t := by
  simp only [getSlot]
  by_cases h : i = t
  · subst h; simp
  · have : Nat.beq i t = false := by
      cases hb : Nat.beq i t with
      | false => rfl
      | true => exact absurd (Nat.eq_of_beq_eq_true hb) h
    rw [this, if_neg h]; rfl

theorem getSlot_filtL (loc : List (Nat × Option Tag × AVal)) : ∀ (l : List (Nat × AVal)) (t : Nat), getSlot (filtL loc l) t = (match findL loc t with | some _ => .any | none => getSlot l t)
  | [], t => by simp only [filtL, getSlot]; split <;> rfl
  | (i, v) :: r, t => by
    have ih := getSlot_filtL loc r t
    simp only [filtL]
    split
    · rename_i e he
      rw [ih, getSlot_cons]
      by_cases hit : i = t
      · subst hit; simp [he]
      · rw [if_neg hit]
    · rename_i he
      rw [getSlot_cons, getSlot_cons, ih]
      by_cases hit : i = t
      · subst hit; simp [he]
      · rw [if_neg hit, if_neg hit]

theorem getSlot_keepL (keep : Nat → Bool) (s : List (Nat × AVal)) : ∀ (loc : List (Nat × Option Tag × AVal)), UniqL loc → ∀ t, getSlot (keepL keep loc s) t = (match findL loc t with | some (none, v) => if keep t then v else getSlot s t | some (some _, _) => getSlot s t | none => getSlot s t)
  | [], _, t => rfl
  | (i, g, v) :: r, hu, t => by
    have ih := getSlot_keepL keep s r hu.2 t
    simp only [keepL, findL_cons]
    cases hgk : g.isNone && keep i with
    | true =>
      simp only [Bool.and_eq_true, Option.isNone_iff_eq_none] at hgk
      obtain ⟨rfl, hk⟩ := hgk
      simp only [cond_true, getSlot_cons]
      by_cases hit : i = t
      · subst hit; simp [hk]
      · rw [if_neg hit, if_neg hit]; exact ih
    | false =>
      simp only [cond_false]
      by_cases hit : i = t
      · subst hit
        rw [ih, hu.1]
        simp only [if_true]
        cases g with
        | some _ => rfl
        | none => simp only [Option.isNone_none, Bool.true_and] at hgk; simp [hgk]
      · rw [if_neg hit]; exact ih

theorem mergeL_sound {K : Ctx} {rs : RSt} {a : Act} {w : World} (keep : Nat → Bool) (h : RSat nt ops slots K rs a w) :
    Sat nt K { slots := mergeL keep slots rs.loc, objs := rs.objs } a w := by
  refine ⟨h.mem, fun t => ?_, h.size, h.defers⟩
  show Rep K (getSlot (mergeL keep slots rs.loc) t) _
  unfold mergeL
  rw [getSlot_keepL keep _ rs.loc h.uniq t, getSlot_filtL]
  split
  · rename_i v hf
    simp only [hf]
    split
    · exact h.plain t v hf
    · exact .any _
  · rename_i hf; simp only [hf]; exact .any _
  · rename_i hf; simp only [hf]; exact h.outer t hf

end
end Go.Fw
