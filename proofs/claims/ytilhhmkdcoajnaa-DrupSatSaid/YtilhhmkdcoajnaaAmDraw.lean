/- What a plan of a region that draws its order says; conditions: none. -/
import Derived.Test.YtilhhmkdcoajnaaAmReg2
set_option linter.unusedVariables false
set_option linter.unusedSimpArgs false
namespace Go.Proofs.Ytilhhmkdcoajnaa.Am
open Go
noncomputable section
def Eh(acc:Array Nat)(o:Oper):Nat:=o.after.foldl (fun s e=>if Region.binds .any e then s ||| 2 ^ e.on ||| acc.getD e.on 0 else s) 0
theorem NM           (acc : Array Nat) (o : Oper) (k : Nat) (h : (Eh      acc o).testBit k = true) : ∃ e ∈ o.after, Region.binds .any e = true ∧ (k = e.on ∨ (acc.getD e.on 0).testBit k = true) := by
  unfold Eh at h
  rw[← Array.foldl_toList]at h
  have key:∀ (l:List Edge) (s:Nat),(l.foldl (fun s e=>if Region.binds .any e then s ||| 2 ^ e.on ||| acc.getD e.on 0 else s) s).testBit k=true →
      s.testBit k=true∨∃e∈l,Region.binds .any e=true∧(k=e.on∨(acc.getD e.on 0).testBit k=true):=by
    intro l
    induction l with
    | nil=>intro s h;exact .inl h
    | cons e l ih =>
      intro s h
      simp only[pE]at h
      rcases ih _ h with h | ⟨e',he',h1,h2⟩
      · by_cases hb : Region.binds .any e = true
        · rw[if_pos hb]at h
          simp only[Nat.testBit_or,Bool.or_eq_true,Nat.testBit_two_pow]at h
          rcases h with(h | h) | h
          · exact .inl h
          · exact .inr ⟨e,oH,hb,.inl (by simpa using (of_decide_eq_true h).symm)⟩
          · exact .inr ⟨e,oH,hb,.inr h⟩
        · rw[if_neg hb]at h
          exact .inl h
      · exact .inr ⟨e',oJ _ he',h1,h2⟩
  rcases key _ _ h with h | ⟨e,he,h1,h2⟩
  · simp at h
  · exact⟨e,Array.mem_toList_iff.1 he,h1,h2⟩
theorem OW          (ops : Array Oper) : ∀ i k, ((Region.before ops).getD i 0).testBit k = true → ∃ o, ops[i]? = some o ∧ ∃ e ∈ o.after, Region.binds .any e = true ∧ (k = e.on ∨ ((Region.before ops).getD e.on 0).testBit k = true) := by
  have key:∀ (l pre:List Oper) (acc:Array Nat),acc.size=pre.length →
      (∀i k,(acc.getD i 0).testBit k=true→∃o,pre[i]? = some o∧∃e∈o.after,Region.binds .any e=true∧(k=e.on∨(acc.getD e.on 0).testBit k=true)) →
      ∀i k,((l.foldl (fun acc o=>acc.push (Eh acc o)) acc).getD i 0).testBit k=true→∃o,(pre++l)[i]? = some o∧∃e∈o.after,Region.binds .any e=true∧(k=e.on∨((l.foldl (fun acc o=>acc.push (Eh acc o)) acc).getD e.on 0).testBit k=true):=by
    intro l
    induction l with
    | nil=>intro pre acc hs h;simpa using h
    | cons o l ih =>
      intro pre acc hs h
      simp only[pE]
      have:=ih (pre++[o]) (acc.push (Eh acc o)) (by simp[hs]) ?_
      · simpa using this
      · have up:∀j k,(acc.getD j 0).testBit k=true→((acc.push (Eh acc o)).getD j 0).testBit k=true:=by
          intro j k hj
          rcases oI j acc.size with hlt | hge
          · simpa[Array.getD_eq_getD_getElem?,Array.getElem?_push,Nat.ne_of_lt hlt]using hj
          · simp[Array.getD_eq_getD_getElem?,Array.getElem?_eq_none hge]at hj
        intro i k hi
        rcases pY i acc.size with hlt | heq | hgt
        · have hi':(acc.getD i 0).testBit k=true:=by
            simpa[Array.getD_eq_getD_getElem?,Array.getElem?_push,Nat.ne_of_lt hlt]using hi
          obtain⟨o',h1,e,h2,h3,h4⟩:=h i k hi'
          refine⟨o',?_,e,h2,h3,h4.imp id (up _ _)⟩
          rw[oR (by omega)]
          exact h1
        · subst heq
          have hi':(Eh acc o).testBit k=true:=by
            simpa[Array.getD_eq_getD_getElem?]using hi
          obtain⟨e,h2,h3,h4⟩:=NM acc o k hi'
          refine⟨o,?_,e,h2,h3,h4.imp id (up _ _)⟩
          rw[hs]
          simp
        · have:(acc.push (Eh acc o))[i]? = none:=Array.getElem?_eq_none (by simp;omega)
          simp[Array.getD_eq_getD_getElem?,this]at hi
  intro i k h
  have h0:Region.before ops=ops.toList.foldl (fun acc o=>acc.push (Eh acc o)) #[]:=by
    unfold Region.before
    rw[← Array.foldl_toList]
    rfl
  rw[h0]at h ⊢
  obtain⟨o,h1,h2⟩:=key ops.toList [] #[] rfl (by intro i k h;simp at h) i k h
  exact⟨o,by simpa using h1,h2⟩
theorem Uv{P:Program}{o:Oper}{sh:Sh}{xs:List Operand}(h:BZ P o.op=some (sh,xs)){t:Tmp}(ht:Operand.tmp t∈xs):t∈F5 P o:=by
  unfold F5
  rw[h]
  refine ol _ (List.mem_filterMap.2 ⟨.tmp t,ht,rfl⟩)
structure It(P:Program)(ops:Array Oper)(b:Array Nat)(π:List Nat):Prop where
  len:π.length=ops.size
  lt:∀p i:Nat,π[p]? = some i→i<ops.size
  inj:∀p q i:Nat,π[p]? = some i→π[q]? = some i→p=q
  edge:∀ (p i:Nat) (o:Oper),π[p]? = some i→ops[i]? = some o→∀e∈o.after,Region.binds .any e=true→∃q,q<p∧π[q]? = some e.on
  eff:∀ (p q i j:Nat) (o:Oper),π[p]? = some i→π[q]? = some j→q<p→ops[j]? = some o→O6 P o=true→(b.getD i 0).testBit j=true
  guard:∀ (p i:Nat) (o:Oper) (j:Nat) (w:Bool),π[p]? = some i→ops[i]? = some o→o.guard=some (j,w)→(b.getD i 0).testBit j=true
  wdst:∀ (p q i j:Nat) (o u:Oper) (d:Tmp),π[p]? = some i→π[q]? = some j→q<p→ops[i]? = some o→ops[j]? = some u→o.dst=some d→u.dst≠some d∧(d∈F5 P u→(b.getD i 0).testBit j=true)
  rdst:∀ (p q i j:Nat) (o u:Oper) (d:Tmp),π[p]? = some i→π[q]? = some j→q<p→ops[i]? = some o→ops[j]? = some u→u.dst=some d→d∈F5 P o→(b.getD i 0).testBit j=true
theorem Li{P:Program}{ops:Array Oper}{b:Array Nat}:∀ {l bef:List Nat},FA P ops b bef l=true →
    (bef++l).length=ops.size∧∀p i:Nat,l[p]? = some i→OI P ops b (bef++l.take p) i=true:=by
  intro l
  induction l with
  | nil=>intro bef h;exact⟨by simpa using A5 h,fun p i e=>by simp at e⟩
  | cons a l ih =>
    intro bef h
    simp only[FA,Bool.and_eq_true]at h
    obtain⟨h1,h2⟩:=ih h.2
    refine⟨by simpa using h1,?_⟩
    intro p i e
    cases p with
    | zero=>simp at e;subst e;simpa using h.1
    | succ p=>simpa using h2 p i (by simpa using e)
theorem D2{ops:Array Oper}{i:Nat}{o:Oper}(h:ops[i]? = some o):ops.getD i default=o:=by simp[Array.getD_eq_getD_getElem?,h]
theorem Fm{l:List Nat}{p j:Nat}:j∈l.take p↔∃q,q<p∧l[q]? = some j:=by
  rw[List.mem_iff_getElem?]
  constructor
  · rintro ⟨q, hq⟩
    rw[pl]at hq
    split at hq
    · exact⟨q,by assumption,hq⟩
    · cases hq
  · rintro⟨q,hlt,hq⟩
    exact⟨q,by rw[pl,if_pos hlt];exact hq⟩
theorem JM{P:Program}{ops:Array Oper}{b:Array Nat}{π:List Nat}(h:FA P ops b [] π=true):It P ops b π:=by
  obtain⟨hlen,hst⟩:=Li h
  simp only[oz]at hlen hst
  have parts:=fun(p i:Nat) (e:π[p]? = some i)=>by
    have:=hst p i e
    unfold OI at this
    simpa only[Bool.and_eq_true,Bool.not_eq_true',Array.all_eq_true_iff_forall_mem,List.all_eq_true,Bool.or_eq_true]using this
  refine⟨hlen,?_,?_,?_,?_,?_,?_,?_⟩
  · intro p i e
    have:=(parts p i e).1.1.1.1.1.1
    simpa[oq]using this
  · have one:∀p q i:Nat,π[p]? = some i→π[q]? = some i→q<p→False:=by
      intro p q i e1 e2 hlt
      have:=(parts p i e1).1.1.1.1.1.2
      have hm:i∈π.take p:=Fm.2 ⟨q,hlt,e2⟩
      rw[List.contains_iff_mem.2 hm]at this
      cases this
    intro p q i e1 e2
    rcases pY p q with h' | h' | h'
    · exact(one q p i e2 e1 h').elim
    · exact h'
    · exact(one p q i e1 e2 h').elim
  · intro p i o e ho ed hed hb
    have:=(parts p i e).1.1.1.2
    rw[D2 ho]at this
    rcases this ed hed with h' | h'
    · rw[hb]at h';cases h'
    · exact Fm.1 (List.contains_iff_mem.1 h')
  · intro p q i j o e1 e2 hlt ho he
    have:=(parts p i e1).1.1.2 j (Fm.2 ⟨q,hlt,e2⟩)
    rw[D2 ho,he]at this
    exact this.resolve_left (by simp)
  · intro p i o j w e ho hg
    have:=(parts p i e).1.2
    rw[D2 ho]at this
    exact this j (by simp[Tt,hg])
  · intro p q i j o u d e1 e2 hlt ho hu hd
    have:=((parts p i e1).2 j (Fm.2 ⟨q,hlt,e2⟩)).1
    rw[D2 ho,D2 hu,hd]at this
    simp only[Bool.and_eq_true,Bool.or_eq_true,Bool.not_eq_true',bne_iff_ne,ne_eq]at this
    refine⟨this.1,fun hm=>?_⟩
    rcases this.2 with h' | h'
    · rw[List.contains_iff_mem.2 hm]at h';cases h'
    · exact h'
  · intro p q i j o u d e1 e2 hlt ho hu hd hm
    have:=((parts p i e1).2 j (Fm.2 ⟨q,hlt,e2⟩)).2
    rw[D2 ho,D2 hu,hd]at this
    simp only[Bool.or_eq_true,Bool.not_eq_true']at this
    rcases this with h' | h'
    · rw[List.contains_iff_mem.2 hm]at h';cases h'
    · exact h'
end
end Go.Proofs.Ytilhhmkdcoajnaa.Am
