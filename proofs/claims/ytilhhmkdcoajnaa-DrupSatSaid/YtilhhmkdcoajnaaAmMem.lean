/- The abstract memory against the model's: the invariant, what a step keeps, new objects, reads and writes; conditions: none. -/
import Derived.Laws.CopyRow
import Derived.Laws.Cells
import Derived.RangeFuncRecord
import Derived.Below
import Derived.Test.YtilhhmkdcoajnaaAmVal
import Derived.Test.YtilhhmkdcoajnaaAmRun
set_option linter.unusedVariables false
set_option linter.unusedSimpArgs false
namespace Go.Proofs.Ytilhhmkdcoajnaa.Am
open Go
noncomputable section
structure GP(P:Program)(ρ:Rho)(w:World)(l:FE)(rb:RB):Prop where
  ex:∃L:Loop,w.heap[rb.b]? = some (.loop L)∧L.state=l.state∧L.pending=l.pending∧L.params=l.params∧L.assign=l.assign∧L.body=l.body ∧
    (∃rd,ρ l.dfr=some rd∧L.defers=rd.b)∧EA ρ (DV P l.fn) l.var L.tmps∧(∀fn,P.funcs[l.fn]? = some fn→fn.ntmps≤L.tmps.size)∧l.var.length=(DV P l.fn).length
def Hz(P:Program)(ρ:Rho)(w:World):Cv→RB→Prop
  | .row r,rb=>Fe ρ w r rb
  | .map es clock,rb=>∃es':Array MapEntry,w.heap[rb.b]? = some (.map es' clock)∧Ed ρ es es'.toList
  | .loop l,rb=>GP P ρ w l rb
  | .mark,rb=>w.heap[rb.b]? = some (.deferred (some []))
  | .iter _ _,_=>False
def wr:Cv→Bool
  | .row r=>FL r.mode
  | _=>true
def My:Cv→Option Nat
  | .row r=>r.par
  | _=>none
structure Inv(P:Program)(ρ:Rho)(s:ASt)(w:World):Prop where
  obj:∀i o rb,s.heap.get i=some o→ρ i=some rb→Hz P ρ w o rb
  lt:∀i rb,ρ i=some rb→rb.b<w.heap.size
  sep:∀i j oi oj ri rj,i≠j→s.heap.get i=some oi→s.heap.get j=some oj→ρ i=some ri→ρ j=some rj→ri.b=rj.b→wr oj=true→My oj=some i∧wr oi=false
def GQ(ρ:Rho)(s:ASt)(b:Nat):Prop:=∃i o rb,s.heap.get i=some o∧wr o=true∧ρ i=some rb∧rb.b=b
structure Fr(ρ:Rho)(s:ASt)(w:World)(ρ':Rho)(s':ASt)(w':World):Prop where
  le:ρ.le ρ'
  fresh:∀i,ρ i=none→(i<s.next∨s'.next≤i)→ρ' i=none
  next:s.next≤s'.next
  size:w.heap.size≤w'.heap.size
  os:w'.os=w.os
  tape:w'.tape=w.tape
  output:w'.output=w.output
  keep:∀b,b<w.heap.size→¬ GQ ρ s b→w'.heap[b]? = w.heap[b]?
  own:∀b,GQ ρ' s' b→GQ ρ s b∨w.heap.size≤b
  unborn:∀i,ρ i=none→(i<s.next∨s'.next≤i)→s'.heap.get i=s.heap.get i
section
variable{P:Program}{ρ ρ1 ρ2:Rho}{s s1 s2:ASt}{w w1 w2:World}
theorem Fr.refl(ρ:Rho)(s:ASt)(w:World):Fr ρ s w ρ s w:=
  ⟨Rho.le_refl ρ,fun _ h _=>h,oD _,oD _,rfl,rfl,rfl,fun _ _ _=>rfl,fun _ h=>.inl h,fun _ _ _=>rfl⟩
theorem Fr.trans(h:Fr ρ s w ρ1 s1 w1)(k:Fr ρ1 s1 w1 ρ2 s2 w2):Fr ρ s w ρ2 s2 w2 where
  le:=Rho.le_trans h.le k.le
  fresh:=fun i hi hr=>k.fresh i (h.fresh i hi (hr.imp id (fun h'=>oS k.next h'))) (hr.imp (fun h'=>oh h' h.next) id)
  next:=oS h.next k.next
  size:=oS h.size k.size
  os:=k.os.trans h.os
  tape:=k.tape.trans h.tape
  output:=k.output.trans h.output
  keep:=fun b hb ho=>(k.keep b (oh hb h.size) (fun ho1=>(h.own b ho1).elim ho (fun hge=>by omega))).trans (h.keep b hb ho)
  own:=fun b hb=>(k.own b hb).elim (fun h1=>h.own b h1) (fun hge=>.inr (oS h.size hge))
  unborn:=fun i hi hr=>(k.unborn i (h.fresh i hi (hr.imp id (fun h'=>oS k.next h'))) (hr.imp (fun h'=>oh h' h.next) id)).trans (h.unborn i hi (hr.imp id (fun h'=>oS k.next h')))
theorem IF{a:Addr}(h:w1.heap[a.block]? = w.heap[a.block]?):w1.cell? a=w.cell? a:=by simp[World.cell?,h]
theorem EA.mono{σ:Rho}(le:ρ.le σ){vars:List Tmp}{var:List AV}{tmps:Array Value}(h:EA ρ vars var tmps):EA σ vars var tmps:=
  fun t k hk=>let ⟨h1,v,h2,h3⟩:=h t k hk;⟨h1,v,h2,h3.mono le⟩
theorem Hz.mono    {o : Cv}   {rb : RB} (h : Hz    P ρ w o rb) (le : ρ.le ρ1) (hk : w1.heap[rb.b]? = w.heap[rb.b]?) : Hz    P ρ1 w1 o rb := by
  cases o with
  | row r =>
    exact⟨fun k v hk' hv=>by
        obtain⟨v',h1,h2⟩:=h.cells k v hk' hv
        exact⟨v',(IF (a:=⟨rb.b,_,none⟩) hk).trans h1,h2.mono le⟩,
      h.le,h.sz,h.tight,fun hm=>by
        obtain⟨cs,e,h1,h2⟩:=h.own hm
        exact⟨cs,e,hk.trans h1,h2⟩,fun p hp=>let ⟨rp,h1⟩:=h.par p hp;⟨rp,le _ _ h1⟩⟩
  | map es clock =>
    obtain⟨es',h1,h2⟩:=h
    exact⟨es',hk.trans h1,h2.mono le⟩
  | loop l =>
    obtain⟨L,h0,h1,h2,h4,h5,h6,⟨rd,h7,h7'⟩,h8,h9⟩:=h.ex
    exact⟨L,hk.trans h0,h1,h2,h4,h5,h6,⟨rd,le _ _ h7,h7'⟩,h8.mono le,h9⟩
  | mark=>exact hk.trans h
  | iter=>exact h
def Cr(ρ:Rho)(i:Nat)(rb:RB):Rho:=fun j=>if j=i then some rb else ρ j
theorem A4(i:Nat)(rb:RB):Cr ρ i rb i=some rb:=by simp[Cr]
theorem Ay{i j:Nat}(rb:RB)(h:j≠i):Cr ρ i rb j=ρ j:=by simp[Cr,h]
theorem Co{i:Nat}{rb:RB}(h:ρ i=none):ρ.le (Cr ρ i rb):=fun j r hj=>by
  have:j≠i:=fun e=>by subst e;rw[h]at hj;cases hj
  rw[Ay rb this];exact hj
theorem CH(s:ASt)(o:Cv)(j:Nat):(AH s o).heap.get j=if j=s.next then some o else s.heap.get j:=Aj.get_set _ _ _ _
theorem DT(s:ASt)(i:Nat)(o:Cv)(j:Nat):(setObj s i o).heap.get j=if j=i then some o else s.heap.get j:=Aj.get_set _ _ _ _
theorem Be(s:ASt)(i j:Nat):(Bc s i).heap.get j=if j=i then none else s.heap.get j:=Aj.get_del _ _ _
theorem HS{o:Obj}{b:Nat}(h:b<w.heap.size):(w.alloc o).heap[b]? = w.heap[b]? :=
  Go.RowKit.Below.heap_alloc w o b h
theorem Inv.new (h : Inv P ρ s w) {o : Cv}   {o' : Obj} {rb : RB} (hf : ρ s.next = none) (hb : rb.b = w.heap.size)
    (ho:Hz P (Cr ρ s.next rb) (w.alloc o') o rb):
    Inv P (Cr ρ s.next rb) (AH s o) (w.alloc o')∧Fr ρ s w (Cr ρ s.next rb) (AH s o) (w.alloc o'):=by
  have hle:=Co (rb:=rb) hf
  refine⟨⟨?_,?_,?_⟩,?_⟩
  · intro i oi ri hi hr
    rw[CH]at hi
    by_cases e:i=s.next
    · subst e
      rw[if_pos rfl]at hi
      injection hi with hi
      rw[A4]at hr
      injection hr with hr
      subst hi;subst hr
      exact ho
    · rw [if_neg e] at hi
      rw[Ay rb e]at hr
      exact(h.obj i oi ri hi hr).mono hle (HS (h.lt i ri hr))
  · intro i ri hr
    by_cases e:i=s.next
    · subst e
      rw[A4]at hr
      injection hr with hr
      subst hr
      simp[hb]
    · rw[Ay rb e]at hr
      have:=h.lt i ri hr
      simp;omega
  · intro i j oi oj ri rj hne hi hj hri hrj hbb hw
    rw[CH]at hi hj
    by_cases ei:i=s.next
    · subst ei
      have ej:j≠s.next:=fun e=>hne e.symm
      rw[A4]at hri
      rw[Ay rb ej]at hrj
      injection hri with hri
      subst hri
      have:=h.lt j rj hrj
      omega
    · by_cases ej : j = s.next
      · subst ej
        rw[Ay rb ei]at hri
        rw[A4]at hrj
        injection hrj with hrj
        subst hrj
        have:=h.lt i ri hri
        omega
      · rw [if_neg ei] at hi
        rw[if_neg ej]at hj
        rw[Ay rb ei]at hri
        rw[Ay rb ej]at hrj
        exact h.sep i j oi oj ri rj hne hi hj hri hrj hbb hw
  · refine ⟨hle, ?_, by simp [AH],     by simp, rfl, rfl, rfl, fun b hb _ => HS            hb, ?_, ?_⟩
    · intro i hi hr
      have:i≠s.next:=by simp[AH]at hr;omega
      rw[Ay rb this];exact hi
    · rintro b ⟨i, oi, ri, hi, hw, hr, rfl⟩
      rw[CH]at hi
      by_cases e:i=s.next
      · subst e
        rw[A4]at hr
        injection hr with hr
        subst hr
        exact .inr (by omega)
      · rw [if_neg e] at hi
        rw[Ay rb e]at hr
        exact .inl ⟨i,oi,ri,hi,hw,hr,rfl⟩
    · intro i _ hi
      rw[CH,if_neg (by simp[AH]at hi;omega)]
theorem Inv.set (h : Inv P ρ s w) {i : Nat} {o o1 : Cv}   {rb : RB} (hg : s.heap.get i = some o) (hr : ρ i = some rb) (hw : wr o = true) (hp : ∀ p, My    o = some p → p ≠ i → s.heap.get p = none)
    (hp1:My o1=none) (hsz:w1.heap.size=w.heap.size) (hkeep:∀b,b≠rb.b→w1.heap[b]? = w.heap[b]?) (hos:w1.os=w.os) (htape:w1.tape=w.tape) (hout:w1.output=w.output)
    (ho:Hz P ρ w1 o1 rb):Inv P ρ (setObj s i o1) w1∧Fr ρ s w ρ (setObj s i o1) w1:=by
  have hsep:∀j oj rj,j≠i→s.heap.get j=some oj→ρ j=some rj→rj.b≠rb.b:=by
    intro j oj rj hne hj hrj e
    have:=hp j (h.sep j i oj o rj rb hne hj hg hrj hr e hw).1 hne
    rw[hj]at this
    cases this
  refine⟨⟨?_,?_,?_⟩,?_⟩
  · intro j oj rj hj hrj
    rw[DT]at hj
    by_cases e:j=i
    · subst e
      rw[if_pos rfl]at hj
      injection hj with hj
      subst hj
      rw[hr]at hrj
      injection hrj with hrj
      subst hrj
      exact ho
    · rw[if_neg e]at hj
      exact(h.obj j oj rj hj hrj).mono (Rho.le_refl ρ) (hkeep _ (hsep j oj rj e hj hrj))
  · intro j rj hrj
    rw[hsz];exact h.lt j rj hrj
  · intro j k oj ok rj rk hne hj hk hrj hrk hbb hwk
    rw[DT]at hj hk
    by_cases ej:j=i
    · subst ej
      have ek:k≠j:=fun e=>hne e.symm
      rw[if_neg ek]at hk
      rw[hr]at hrj
      injection hrj with hrj
      subst hrj
      exact absurd hbb.symm (hsep k ok rk ek hk hrk)
    · by_cases ek : k = i
      · subst ek
        rw[if_neg ej]at hj
        rw[hr]at hrk
        injection hrk with hrk
        subst hrk
        exact absurd hbb (hsep j oj rj ej hj hrj)
      · rw [if_neg ej] at hj
        rw[if_neg ek]at hk
        exact h.sep j k oj ok rj rk hne hj hk hrj hrk hbb hwk
  · refine ⟨Rho.le_refl ρ, fun _ h _ => h, oD          _, by omega, hos, htape, hout, ?_, ?_, ?_⟩
    · intro b _ hno
      exact hkeep b (fun e=>hno ⟨i,o,rb,hg,hw,hr,e.symm⟩)
    · rintro b ⟨j, oj, rj, hj, hwj, hrj, rfl⟩
      rw[DT]at hj
      by_cases e:j=i
      · subst e
        rw[hr]at hrj
        injection hrj with hrj
        subst hrj
        exact .inl ⟨j,o,rb,hg,hw,hr,rfl⟩
      · rw[if_neg e]at hj
        exact .inl ⟨j,oj,rj,hj,hwj,hrj,rfl⟩
    · intro j hrj _
      rw[DT,if_neg]
      intro e
      subst e
      rw[hr]at hrj
      cases hrj
theorem Inv.del (h : Inv P ρ s w) {i : Nat} {rb : RB} (hr : ρ i = some rb) : Inv P ρ (Bc     s i) w ∧ Fr ρ s w ρ (Bc     s i) w := by
  refine⟨⟨?_,h.lt,?_⟩,⟨Rho.le_refl ρ,fun _ h _=>h,oD _,oD _,rfl,rfl,rfl,fun _ _ _=>rfl,?_,?_⟩⟩
  · intro j oj rj hj hrj
    rw[Be]at hj
    by_cases e:j=i
    · rw[if_pos e]at hj;cases hj
    · rw[if_neg e]at hj
      exact h.obj j oj rj hj hrj
  · intro j k oj ok rj rk hne hj hk
    rw[Be]at hj hk
    by_cases ej:j=i
    · rw[if_pos ej]at hj;cases hj
    · by_cases ek : k = i
      · rw[if_pos ek]at hk;cases hk
      · rw [if_neg ej] at hj
        rw[if_neg ek]at hk
        exact h.sep j k oj ok rj rk hne hj hk
  · rintro b ⟨j, oj, rj, hj, hwj, hrj, rfl⟩
    rw[Be]at hj
    by_cases e:j=i
    · rw[if_pos e]at hj;cases hj
    · rw[if_neg e]at hj
      exact .inl ⟨j,oj,rj,hj,hwj,hrj,rfl⟩
  · intro j hrj _
    rw[Be,if_neg]
    intro e
    subst e
    rw[hr]at hrj
    cases hrj
theorem Cn{i:Nat}{r:EF}(h:BA s i=some r):s.heap.get i=some (.row r):=by
  unfold BA at h
  split at h
  · injection h with h;subst h;assumption
  · cases h
theorem Cg(b o k:Nat):(⟨b,o,none⟩:Addr).add k=⟨b,o+k,none⟩:=by unfold Addr.add;split<;>simp_all
theorem EL(h:Inv P ρ s w){i off n:Nat}{l:List AV}{rb:RB}(hr:ρ i=some rb)(hl:loadN s i off n=some l):
    ∃l':List Value,AU ρ l l'∧l'.length=n∧∀w1:World,w1.heap=w.heap→(loadCells ⟨rb.b,rb.off+off,none⟩ n).run P w1=.ok l'.toArray w1:=by
  unfold loadN at hl
  simp only[oE]at hl
  obtain⟨r,hrow,hl⟩:=hl
  obtain⟨hb,hl⟩:=AJ hl
  have hb:off+n≤r.n:=by simpa[oQ]using hb
  have hok:Fe ρ w r rb:=h.obj i _ rb (Cn hrow) hr
  have hlen:=Aj.take_length hl
  have hc:∀k,k<n→∃v v',l[k]? = some v∧w.cell? ⟨rb.b,rb.off+off+k,none⟩=some v'∧Aa ρ v v':=by
    intro k hk
    have hv:l[k]? = some l[k]:=oM (by omega)
    have hg:=Aj.take_get hl k hk
    rw[hv]at hg
    obtain⟨v',h1,h2⟩:=hok.cells (off+k) _ (by omega) hg
    exact⟨l[k],v',hv,by rw[show rb.off+off+k=rb.off+(off+k)from by omega];exact h1,h2⟩
  let f:Nat→Value:=fun k=>(w.cell? ⟨rb.b,rb.off+off+k,none⟩).getD undef
  have hf:∀k,k<n→w.cell? ⟨rb.b,rb.off+off+k,none⟩=some (f k):=by
    intro k hk
    obtain⟨v,v',_,h2,_⟩:=hc k hk
    simp[f,h2]
  refine⟨(List.range n).map f,?_,by simp,?_⟩
  · refine AU.of_get (by simp[hlen]) ?_
    intro k v v' hv hv'
    have hk:k<n:=by
      rcases oI k n with h' | h'
      · exact h'
      · rw[oe (by omega)]at hv;cases hv
    obtain⟨u,u',h1,h2,h3⟩:=hc k hk
    rw[h1]at hv
    injection hv with hv
    subst hv
    rw[pL,List.getElem?_range hk]at hv'
    simp only[Option.map_some]at hv'
    injection hv' with hv'
    rw[← hv']
    have:f k=u':=by simp[f,h2]
    rw[this];exact h3
  · intro w1 he
    exact run_loadCells w1 _ n f (fun j hj=>by rw[Cg];exact(IF (by rw[he])).trans (hf j hj))
theorem Zl(h:Inv P ρ s w){i off:Nat}{v:AV}{rb:RB}(hr:ρ i=some rb)(hl:load1 s i off=some v):
    ∃v',Aa ρ v v'∧w.cell? ⟨rb.b,rb.off+off,none⟩=some v':=by
  unfold load1 at hl
  simp only[oE]at hl
  obtain⟨r,hrow,hl⟩:=hl
  obtain⟨hb,hl⟩:=AJ hl
  have hb:off<r.n:=by simpa[oq]using hb
  have hok:Fe ρ w r rb:=h.obj i _ rb (Cn hrow) hr
  obtain⟨v',h1,h2⟩:=hok.cells off v hb hl
  exact⟨v',h2,h1⟩
theorem PM       (h : Inv P ρ s w) {t : TypeId} {a v : AV} {a' : Value} (hl : AD    P s t a = some v) (ha : Aa   ρ a a') :
    ∃v',(Instr.loadAt t a').run P w=.ok v' w∧Aa ρ v v'∧∃ad,a'=.pointer (some ad)∧(loadVar t ad).run P w=.ok v' w:=by
  unfold AD at hl
  split at hl<;>first | (cases hl;done) | skip
  rename_i i o
  cases ha with
  | ptr hr =>
    rename_i rb
    simp only[oE]at hl
    obtain⟨g,hg,hl⟩:=hl
    cases g with
    | true =>
      simp only[oE]at hl
      obtain⟨n,hn,l,hl,hv⟩:=hl
      injection hv with hv;subst hv
      obtain⟨l',h1,h2,h3⟩:=EL h hr hl
      have hrun:(loadVar t ⟨rb.b,rb.off+o,none⟩).run P w=.ok (.agg l'.toArray) w:=by
        simp[loadVar,KG hg,BH hn,h3 w rfl]
      exact⟨.agg l'.toArray,by simp[Instr.loadAt,Instr.sureAddr,hrun],.agg (by simpa using h1),_,rfl,hrun⟩
    | false =>
      obtain⟨v',h1,h2⟩:=Zl h hr hl
      have hrun:(loadVar t ⟨rb.b,rb.off+o,none⟩).run P w=.ok v' w:=by
        simp[loadVar,KG hg,h2]
      exact⟨v',by simp[Instr.loadAt,Instr.sureAddr,hrun],h1,_,rfl,hrun⟩
end
end
end Go.Proofs.Ytilhhmkdcoajnaa.Am
