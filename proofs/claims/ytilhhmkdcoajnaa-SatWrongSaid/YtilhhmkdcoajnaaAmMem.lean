/- The abstract memory against the model's: the invariant, what a step keeps, new objects, reads and writes; conditions: none. -/
import Derived.Laws.CopyRow
import Derived.Laws.Cells
import Derived.RangeFuncRecord
import Derived.Below
import Derived.Test.YtilhhmkdcoajnaaAmVal
import Derived.Test.YtilhhmkdcoajnaaAmRun
set_option linter.unusedVariables false
set_option linter.unusedSimpArgs false
namespace Go.Proofs.Ytilhhmkdcoajnaa.Am
open Go
noncomputable section
structure LoopOk(P:Program)(ρ:Rho)(w:World)(l:ALoop)(rb:RB):Prop where
  ex:∃L:Loop,w.heap[rb.b]? = some (.loop L)∧L.state=l.state∧L.pending=l.pending∧L.params=l.params∧L.assign=l.assign∧L.body=l.body ∧
    (∃rd,ρ l.dfr=some rd∧L.defers=rd.b)∧RegsRel ρ (varsIn P l.fn) l.var L.tmps∧(∀fn,P.funcs[l.fn]? = some fn→fn.ntmps≤L.tmps.size)∧l.var.length=(varsIn P l.fn).length
def ObjOk(P:Program)(ρ:Rho)(w:World):AObj→RB→Prop
  | .row r,rb=>RowOk ρ w r rb
  | .map es clock,rb=>∃es':Array MapEntry,w.heap[rb.b]? = some (.map es' clock)∧ERel ρ es es'.toList
  | .loop l,rb=>LoopOk P ρ w l rb
  | .mark,rb=>w.heap[rb.b]? = some (.deferred (some []))
  | .iter _ _,_=>False
def wr:AObj→Bool
  | .row r=>isOwn r.mode
  | _=>true
def parOf:AObj→Option Nat
  | .row r=>r.par
  | _=>none
structure Inv(P:Program)(ρ:Rho)(s:ASt)(w:World):Prop where
  obj:∀i o rb,s.heap.get i=some o→ρ i=some rb→ObjOk P ρ w o rb
  lt:∀i rb,ρ i=some rb→rb.b<w.heap.size
  sep:∀i j oi oj ri rj,i≠j→s.heap.get i=some oi→s.heap.get j=some oj→ρ i=some ri→ρ j=some rj→ri.b=rj.b→wr oj=true→parOf oj=some i∧wr oi=false
def Owned(ρ:Rho)(s:ASt)(b:Nat):Prop:=∃i o rb,s.heap.get i=some o∧wr o=true∧ρ i=some rb∧rb.b=b
structure Fr(ρ:Rho)(s:ASt)(w:World)(ρ':Rho)(s':ASt)(w':World):Prop where
  le:ρ.le ρ'
  fresh:∀i,ρ i=none→(i<s.next∨s'.next≤i)→ρ' i=none
  next:s.next≤s'.next
  size:w.heap.size≤w'.heap.size
  os:w'.os=w.os
  tape:w'.tape=w.tape
  output:w'.output=w.output
  keep:∀b,b<w.heap.size→¬ Owned ρ s b→w'.heap[b]? = w.heap[b]?
  own:∀b,Owned ρ' s' b→Owned ρ s b∨w.heap.size≤b
  unborn:∀i,ρ i=none→(i<s.next∨s'.next≤i)→s'.heap.get i=s.heap.get i
section
variable{P:Program}{ρ ρ1 ρ2:Rho}{s s1 s2:ASt}{w w1 w2:World}
theorem Fr.refl(ρ:Rho)(s:ASt)(w:World):Fr ρ s w ρ s w:=
  ⟨Rho.le_refl ρ,fun _ h _=>h,Nat.le_refl _,Nat.le_refl _,rfl,rfl,rfl,fun _ _ _=>rfl,fun _ h=>.inl h,fun _ _ _=>rfl⟩
theorem Fr.trans(h:Fr ρ s w ρ1 s1 w1)(k:Fr ρ1 s1 w1 ρ2 s2 w2):Fr ρ s w ρ2 s2 w2 where
  le:=Rho.le_trans h.le k.le
  fresh:=fun i hi hr=>k.fresh i (h.fresh i hi (hr.imp id (fun h'=>Nat.le_trans k.next h'))) (hr.imp (fun h'=>Nat.lt_of_lt_of_le h' h.next) id)
  next:=Nat.le_trans h.next k.next
  size:=Nat.le_trans h.size k.size
  os:=k.os.trans h.os
  tape:=k.tape.trans h.tape
  output:=k.output.trans h.output
  keep:=fun b hb ho=>(k.keep b (Nat.lt_of_lt_of_le hb h.size) (fun ho1=>(h.own b ho1).elim ho (fun hge=>by omega))).trans (h.keep b hb ho)
  own:=fun b hb=>(k.own b hb).elim (fun h1=>h.own b h1) (fun hge=>.inr (Nat.le_trans h.size hge))
  unborn:=fun i hi hr=>(k.unborn i (h.fresh i hi (hr.imp id (fun h'=>Nat.le_trans k.next h'))) (hr.imp (fun h'=>Nat.lt_of_lt_of_le h' h.next) id)).trans (h.unborn i hi (hr.imp id (fun h'=>Nat.le_trans k.next h')))
theorem cell_of_heap{a:Addr}(h:w1.heap[a.block]? = w.heap[a.block]?):w1.cell? a=w.cell? a:=by simp[World.cell?,h]
theorem RegsRel.mono{σ:Rho}(le:ρ.le σ){vars:List Tmp}{var:List AV}{tmps:Array Value}(h:RegsRel ρ vars var tmps):RegsRel σ vars var tmps:=
  fun t k hk=>let ⟨h1,v,h2,h3⟩:=h t k hk;⟨h1,v,h2,h3.mono le⟩
theorem ObjOk.mono {o : AObj} {rb : RB} (h : ObjOk P ρ w o rb) (le : ρ.le ρ1) (hk : w1.heap[rb.b]? = w.heap[rb.b]?) : ObjOk P ρ1 w1 o rb := by
  cases o with
  | row r =>
    exact⟨fun k v hk' hv=>by
        obtain⟨v',h1,h2⟩:=h.cells k v hk' hv
        exact⟨v',(cell_of_heap (a:=⟨rb.b,_,none⟩) hk).trans h1,h2.mono le⟩,
      h.le,h.sz,h.tight,fun hm=>by
        obtain⟨cs,e,h1,h2⟩:=h.own hm
        exact⟨cs,e,hk.trans h1,h2⟩,fun p hp=>let ⟨rp,h1⟩:=h.par p hp;⟨rp,le _ _ h1⟩⟩
  | map es clock =>
    obtain⟨es',h1,h2⟩:=h
    exact⟨es',hk.trans h1,h2.mono le⟩
  | loop l =>
    obtain⟨L,h0,h1,h2,h4,h5,h6,⟨rd,h7,h7'⟩,h8,h9⟩:=h.ex
    exact⟨L,hk.trans h0,h1,h2,h4,h5,h6,⟨rd,le _ _ h7,h7'⟩,h8.mono le,h9⟩
  | mark=>exact hk.trans h
  | iter=>exact h
def setRho(ρ:Rho)(i:Nat)(rb:RB):Rho:=fun j=>if j=i then some rb else ρ j
theorem setRho_same(i:Nat)(rb:RB):setRho ρ i rb i=some rb:=by simp[setRho]
theorem setRho_other{i j:Nat}(rb:RB)(h:j≠i):setRho ρ i rb j=ρ j:=by simp[setRho,h]
theorem setRho_le{i:Nat}{rb:RB}(h:ρ i=none):ρ.le (setRho ρ i rb):=fun j r hj=>by
  have:j≠i:=fun e=>by subst e;rw[h]at hj;cases hj
  rw[setRho_other rb this];exact hj
theorem get_newObj(s:ASt)(o:AObj)(j:Nat):(newObj s o).heap.get j=if j=s.next then some o else s.heap.get j:=Tree.get_set _ _ _ _
theorem get_setObj(s:ASt)(i:Nat)(o:AObj)(j:Nat):(setObj s i o).heap.get j=if j=i then some o else s.heap.get j:=Tree.get_set _ _ _ _
theorem get_delObj(s:ASt)(i j:Nat):(delObj s i).heap.get j=if j=i then none else s.heap.get j:=Tree.get_del _ _ _
theorem heap_push_old{o:Obj}{b:Nat}(h:b<w.heap.size):(w.alloc o).heap[b]? = w.heap[b]? :=
  Go.RowKit.Below.heap_alloc w o b h
theorem Inv.new (h : Inv P ρ s w) {o : AObj} {o' : Obj} {rb : RB} (hf : ρ s.next = none) (hb : rb.b = w.heap.size)
    (ho:ObjOk P (setRho ρ s.next rb) (w.alloc o') o rb):
    Inv P (setRho ρ s.next rb) (newObj s o) (w.alloc o')∧Fr ρ s w (setRho ρ s.next rb) (newObj s o) (w.alloc o'):=by
  have hle:=setRho_le (rb:=rb) hf
  refine⟨⟨?_,?_,?_⟩,?_⟩
  · intro i oi ri hi hr
    rw[get_newObj]at hi
    by_cases e:i=s.next
    · subst e
      rw[if_pos rfl]at hi
      injection hi with hi
      rw[setRho_same]at hr
      injection hr with hr
      subst hi;subst hr
      exact ho
    · rw [if_neg e] at hi
      rw[setRho_other rb e]at hr
      exact(h.obj i oi ri hi hr).mono hle (heap_push_old (h.lt i ri hr))
  · intro i ri hr
    by_cases e:i=s.next
    · subst e
      rw[setRho_same]at hr
      injection hr with hr
      subst hr
      simp[hb]
    · rw[setRho_other rb e]at hr
      have:=h.lt i ri hr
      simp;omega
  · intro i j oi oj ri rj hne hi hj hri hrj hbb hw
    rw[get_newObj]at hi hj
    by_cases ei:i=s.next
    · subst ei
      have ej:j≠s.next:=fun e=>hne e.symm
      rw[setRho_same]at hri
      rw[setRho_other rb ej]at hrj
      injection hri with hri
      subst hri
      have:=h.lt j rj hrj
      omega
    · by_cases ej : j = s.next
      · subst ej
        rw[setRho_other rb ei]at hri
        rw[setRho_same]at hrj
        injection hrj with hrj
        subst hrj
        have:=h.lt i ri hri
        omega
      · rw [if_neg ei] at hi
        rw[if_neg ej]at hj
        rw[setRho_other rb ei]at hri
        rw[setRho_other rb ej]at hrj
        exact h.sep i j oi oj ri rj hne hi hj hri hrj hbb hw
  · refine ⟨hle, ?_, by simp [newObj], by simp, rfl, rfl, rfl, fun b hb _ => heap_push_old hb, ?_, ?_⟩
    · intro i hi hr
      have:i≠s.next:=by simp[newObj]at hr;omega
      rw[setRho_other rb this];exact hi
    · rintro b ⟨i, oi, ri, hi, hw, hr, rfl⟩
      rw[get_newObj]at hi
      by_cases e:i=s.next
      · subst e
        rw[setRho_same]at hr
        injection hr with hr
        subst hr
        exact .inr (by omega)
      · rw [if_neg e] at hi
        rw[setRho_other rb e]at hr
        exact .inl ⟨i,oi,ri,hi,hw,hr,rfl⟩
    · intro i _ hi
      rw[get_newObj,if_neg (by simp[newObj]at hi;omega)]
theorem Inv.set (h : Inv P ρ s w) {i : Nat} {o o1 : AObj} {rb : RB} (hg : s.heap.get i = some o) (hr : ρ i = some rb) (hw : wr o = true) (hp : ∀ p, parOf o = some p → p ≠ i → s.heap.get p = none)
    (hp1:parOf o1=none) (hsz:w1.heap.size=w.heap.size) (hkeep:∀b,b≠rb.b→w1.heap[b]? = w.heap[b]?) (hos:w1.os=w.os) (htape:w1.tape=w.tape) (hout:w1.output=w.output)
    (ho:ObjOk P ρ w1 o1 rb):Inv P ρ (setObj s i o1) w1∧Fr ρ s w ρ (setObj s i o1) w1:=by
  have hsep:∀j oj rj,j≠i→s.heap.get j=some oj→ρ j=some rj→rj.b≠rb.b:=by
    intro j oj rj hne hj hrj e
    have:=hp j (h.sep j i oj o rj rb hne hj hg hrj hr e hw).1 hne
    rw[hj]at this
    cases this
  refine⟨⟨?_,?_,?_⟩,?_⟩
  · intro j oj rj hj hrj
    rw[get_setObj]at hj
    by_cases e:j=i
    · subst e
      rw[if_pos rfl]at hj
      injection hj with hj
      subst hj
      rw[hr]at hrj
      injection hrj with hrj
      subst hrj
      exact ho
    · rw[if_neg e]at hj
      exact(h.obj j oj rj hj hrj).mono (Rho.le_refl ρ) (hkeep _ (hsep j oj rj e hj hrj))
  · intro j rj hrj
    rw[hsz];exact h.lt j rj hrj
  · intro j k oj ok rj rk hne hj hk hrj hrk hbb hwk
    rw[get_setObj]at hj hk
    by_cases ej:j=i
    · subst ej
      have ek:k≠j:=fun e=>hne e.symm
      rw[if_neg ek]at hk
      rw[hr]at hrj
      injection hrj with hrj
      subst hrj
      exact absurd hbb.symm (hsep k ok rk ek hk hrk)
    · by_cases ek : k = i
      · subst ek
        rw[if_neg ej]at hj
        rw[hr]at hrk
        injection hrk with hrk
        subst hrk
        exact absurd hbb (hsep j oj rj ej hj hrj)
      · rw [if_neg ej] at hj
        rw[if_neg ek]at hk
        exact h.sep j k oj ok rj rk hne hj hk hrj hrk hbb hwk
  · refine ⟨Rho.le_refl ρ, fun _ h _ => h, Nat.le_refl _, by omega, hos, htape, hout, ?_, ?_, ?_⟩
    · intro b _ hno
      exact hkeep b (fun e=>hno ⟨i,o,rb,hg,hw,hr,e.symm⟩)
    · rintro b ⟨j, oj, rj, hj, hwj, hrj, rfl⟩
      rw[get_setObj]at hj
      by_cases e:j=i
      · subst e
        rw[hr]at hrj
        injection hrj with hrj
        subst hrj
        exact .inl ⟨j,o,rb,hg,hw,hr,rfl⟩
      · rw[if_neg e]at hj
        exact .inl ⟨j,oj,rj,hj,hwj,hrj,rfl⟩
    · intro j hrj _
      rw[get_setObj,if_neg]
      intro e
      subst e
      rw[hr]at hrj
      cases hrj
theorem Inv.del (h : Inv P ρ s w) {i : Nat} {rb : RB} (hr : ρ i = some rb) : Inv P ρ (delObj s i) w ∧ Fr ρ s w ρ (delObj s i) w := by
  refine⟨⟨?_,h.lt,?_⟩,⟨Rho.le_refl ρ,fun _ h _=>h,Nat.le_refl _,Nat.le_refl _,rfl,rfl,rfl,fun _ _ _=>rfl,?_,?_⟩⟩
  · intro j oj rj hj hrj
    rw[get_delObj]at hj
    by_cases e:j=i
    · rw[if_pos e]at hj;cases hj
    · rw[if_neg e]at hj
      exact h.obj j oj rj hj hrj
  · intro j k oj ok rj rk hne hj hk
    rw[get_delObj]at hj hk
    by_cases ej:j=i
    · rw[if_pos ej]at hj;cases hj
    · by_cases ek : k = i
      · rw[if_pos ek]at hk;cases hk
      · rw [if_neg ej] at hj
        rw[if_neg ek]at hk
        exact h.sep j k oj ok rj rk hne hj hk
  · rintro b ⟨j, oj, rj, hj, hwj, hrj, rfl⟩
    rw[get_delObj]at hj
    by_cases e:j=i
    · rw[if_pos e]at hj;cases hj
    · rw[if_neg e]at hj
      exact .inl ⟨j,oj,rj,hj,hwj,hrj,rfl⟩
  · intro j hrj _
    rw[get_delObj,if_neg]
    intro e
    subst e
    rw[hr]at hrj
    cases hrj
theorem rowAt_get{i:Nat}{r:ARow}(h:rowAt s i=some r):s.heap.get i=some (.row r):=by
  unfold rowAt at h
  split at h
  · injection h with h;subst h;assumption
  · cases h
theorem add_none(b o k:Nat):(⟨b,o,none⟩:Addr).add k=⟨b,o+k,none⟩:=by unfold Addr.add;split<;>simp_all
theorem loadN_ok(h:Inv P ρ s w){i off n:Nat}{l:List AV}{rb:RB}(hr:ρ i=some rb)(hl:loadN s i off n=some l):
    ∃l':List Value,VRels ρ l l'∧l'.length=n∧∀w1:World,w1.heap=w.heap→(loadCells ⟨rb.b,rb.off+off,none⟩ n).run P w1=.ok l'.toArray w1:=by
  unfold loadN at hl
  simp only[Option.bind_eq_some_iff]at hl
  obtain⟨r,hrow,hl⟩:=hl
  obtain⟨hb,hl⟩:=guardB_some hl
  have hb:off+n≤r.n:=by simpa[Nat.ble_eq]using hb
  have hok:RowOk ρ w r rb:=h.obj i _ rb (rowAt_get hrow) hr
  have hlen:=Tree.take_length hl
  have hc:∀k,k<n→∃v v',l[k]? = some v∧w.cell? ⟨rb.b,rb.off+off+k,none⟩=some v'∧VRel ρ v v':=by
    intro k hk
    have hv:l[k]? = some l[k]:=List.getElem?_eq_getElem (by omega)
    have hg:=Tree.take_get hl k hk
    rw[hv]at hg
    obtain⟨v',h1,h2⟩:=hok.cells (off+k) _ (by omega) hg
    exact⟨l[k],v',hv,by rw[show rb.off+off+k=rb.off+(off+k)from by omega];exact h1,h2⟩
  let f:Nat→Value:=fun k=>(w.cell? ⟨rb.b,rb.off+off+k,none⟩).getD undef
  have hf:∀k,k<n→w.cell? ⟨rb.b,rb.off+off+k,none⟩=some (f k):=by
    intro k hk
    obtain⟨v,v',_,h2,_⟩:=hc k hk
    simp[f,h2]
  refine⟨(List.range n).map f,?_,by simp,?_⟩
  · refine VRels.of_get (by simp[hlen]) ?_
    intro k v v' hv hv'
    have hk:k<n:=by
      rcases Nat.lt_or_ge k n with h' | h'
      · exact h'
      · rw[List.getElem?_eq_none (by omega)]at hv;cases hv
    obtain⟨u,u',h1,h2,h3⟩:=hc k hk
    rw[h1]at hv
    injection hv with hv
    subst hv
    rw[List.getElem?_map,List.getElem?_range hk]at hv'
    simp only[Option.map_some]at hv'
    injection hv' with hv'
    rw[← hv']
    have:f k=u':=by simp[f,h2]
    rw[this];exact h3
  · intro w1 he
    exact run_loadCells w1 _ n f (fun j hj=>by rw[add_none];exact(cell_of_heap (by rw[he])).trans (hf j hj))
theorem load1_ok(h:Inv P ρ s w){i off:Nat}{v:AV}{rb:RB}(hr:ρ i=some rb)(hl:load1 s i off=some v):
    ∃v',VRel ρ v v'∧w.cell? ⟨rb.b,rb.off+off,none⟩=some v':=by
  unfold load1 at hl
  simp only[Option.bind_eq_some_iff]at hl
  obtain⟨r,hrow,hl⟩:=hl
  obtain⟨hb,hl⟩:=guardB_some hl
  have hb:off<r.n:=by simpa[Nat.blt_eq]using hb
  have hok:RowOk ρ w r rb:=h.obj i _ rb (rowAt_get hrow) hr
  obtain⟨v',h1,h2⟩:=hok.cells off v hb hl
  exact⟨v',h2,h1⟩
theorem loadV_ok (h : Inv P ρ s w) {t : TypeId} {a v : AV} {a' : Value} (hl : loadV P s t a = some v) (ha : VRel ρ a a') :
    ∃v',(Instr.loadAt t a').run P w=.ok v' w∧VRel ρ v v'∧∃ad,a'=.pointer (some ad)∧(loadVar t ad).run P w=.ok v' w:=by
  unfold loadV at hl
  split at hl<;>first | (cases hl;done) | skip
  rename_i i o
  cases ha with
  | ptr hr =>
    rename_i rb
    simp only[Option.bind_eq_some_iff]at hl
    obtain⟨g,hg,hl⟩:=hl
    cases g with
    | true =>
      simp only[Option.bind_eq_some_iff]at hl
      obtain⟨n,hn,l,hl,hv⟩:=hl
      injection hv with hv;subst hv
      obtain⟨l',h1,h2,h3⟩:=loadN_ok h hr hl
      have hrun:(loadVar t ⟨rb.b,rb.off+o,none⟩).run P w=.ok (.agg l'.toArray) w:=by
        simp[loadVar,run_agg hg,run_size hn,h3 w rfl]
      exact⟨.agg l'.toArray,by simp[Instr.loadAt,Instr.sureAddr,hrun],.agg (by simpa using h1),_,rfl,hrun⟩
    | false =>
      obtain⟨v',h1,h2⟩:=load1_ok h hr hl
      have hrun:(loadVar t ⟨rb.b,rb.off+o,none⟩).run P w=.ok v' w:=by
        simp[loadVar,run_agg hg,h2]
      exact⟨v',by simp[Instr.loadAt,Instr.sureAddr,hrun],h1,_,rfl,hrun⟩
end
end
end Go.Proofs.Ytilhhmkdcoajnaa.Am
