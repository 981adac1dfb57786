/- Maps in the model's words and in the abstract machine's: entries laid into a map; conditions: none. -/
import Derived.Maps.Own
import Derived.Lib.SlMapMerge
import Derived.Test.YtdmgdlbodeemeaaGreatDoorAmM02
import Derived.Test.YtdmgdlbodeemeaaGreatDoorAmM04
import Derived.Test.YtdmgdlbodeemeaaGreatDoorProg
import Derived.Shelf.Strings.OnBuilder
import Derived.Shelf.Strings.Trim
import Derived.Shelf.Strconv.Itoa3
import Derived.Shelf.SlIterI.Nil
import Derived.Shelf.SlIterI.Sorted
import Derived.Shelf.SortM.Plain
import Derived.Shelf.SortM.SortNone
import Derived.Ground.GgzProg
import Derived.Ground.SlgmProg
import Derived.Shelf.SlMaps.Copy
import Derived.Ground.SlmpProg
import Derived.Test.YtdmgdlbodeemeaaGreatDoorAmM01
set_option linter.unusedVariables false
set_option linter.unusedSimpArgs false
namespace Go.Proofs.YtdmgdlbodeemeaaGreatDoor.Am
open Go
noncomputable section
def Mq:List (AV×AV)→List (AV×AV)→Option (List (AV×AV))
 | [],es=>some es
 | (k,v)::fs,es=>(YK k v es).bind fun es'=>Mq fs es'
section
variable{P:Program}{ρ ρ1 ρ2:A5}{s s1 s2:AD}{w w1 w2:World}
abbrev KV:=Value×Value
def kv(e:MapEntry):KV:=(e.key,e.val)
open Classical in
def Ef (k v:Value):List KV→List KV
 | []=>[(k,v)]
 | e::l=>if e.1=k then (k,v)::l else e::Ef k v l
inductive Hq (ρ:A5):List (AV×AV)→List KV→Prop
 | nil:Hq ρ [] []
 | cons {k v:AV} {e:KV} {l:List (AV×AV)} {l':List KV} (hk:AK ρ k e.1) (hv:AK ρ v e.2) (hs:Hq ρ l l'):Hq ρ ((k,v)::l) (e::l')
theorem CH.p{es:List (AV×AV)}{l:List MapEntry}(h:CH ρ es l):Hq ρ es (l.map kv):=by
 induction h with
 | nil=>exact .nil
 | cons hk hv _ ih=>exact .cons hk hv ih
theorem CH.of_p:∀ {es:List (AV×AV)}{l:List MapEntry},Hq ρ es (l.map kv)→CH ρ es l
 | _,[],h=>by cases h;exact .nil
 | _,e::l,h=>by
  cases h with
  | cons hk hv hs=>exact .cons hk hv (CH.of_p hs)
theorem Z8      {k : AV} {k' : Value} (hk : AK   ρ k k') {v : AV} {v' : Value} (hv : AK   ρ v v') : ∀ {es : List (AV × AV)} {l : List KV} {i : Nat} {r : Option (Nat × AV)}, Fg    k es i = some r → Hq   ρ es l →
    match r with
    | none=>Hq ρ (es++[(k,v)]) (Ef k' v' l)
    | some (j,_)=>i≤j∧Hq ρ (setNth es (j - i) v) (Ef k' v' l):=by
  intro es l i r h he
  induction he generalizing i r with
  | nil=>simp[Fg]at h;subst h;exact .cons hk hv .nil
  | cons hk0 hv0 hs ih =>
    rename_i k0 v0 e0 l l'
    simp only[Fg,fQ]at h
    obtain⟨b,hb',h⟩:=h
    have hkv:=LF hb' hk hk0
    cases b with
    | true =>
      simp only[Option.some.injEq]at h
      subst h
      have:=hkv.1 rfl
      refine⟨fR _,?_⟩
      simp only[Nat.sub_self,setNth,Ef,this,if_true]
      exact .cons (by rw[← this];exact hk0) hv hs
    | false =>
      have hne:e0.1≠k':=fun e=>by have:=hkv.2 e;cases this
      simp only at h
      have:=ih h
      simp only[Ef,hne,if_false]
      cases r with
      | none=>exact .cons hk0 hv0 this
      | some q =>
        obtain⟨h1,h2⟩:=this
        refine⟨by omega,?_⟩
        rw[show q.1 - i=(q.1 - (i+1))+1 from by omega]
        exact .cons hk0 hv0 h2
theorem cn{k v:AV}{k' v':Value}(hk:AK ρ k k')(hv:AK ρ v v'){es es1:List (AV×AV)}{l:List KV}(h:YK k v es=some es1)(he:Hq ρ es l):Hq ρ es1 (Ef k' v' l):=by
 unfold YK at h
 simp only[fQ]at h
 obtain⟨r,hf,h⟩:=h
 have:=Z8 hk hv hf he
 cases r with
 | none=>injection h with h;subst h;exact this
 | some q=>injection h with h;subst h;exact this.2
def LP (l m:List KV):List KV:=m.foldl (fun l e=>Ef e.1 e.2 l) l
theorem OD:∀ {fs es es1:List (AV×AV)}{l m:List KV},Mq fs es=some es1→Hq ρ es l→Hq ρ fs m→Hq ρ es1 (LP l m)
 | [],es,es1,l,m,h,he,hf=>by cases hf;injection h with h;subst h;exact he
 | (k,v)::fs,es,es1,l,m,h,he,hf=>by
  cases hf with
  | cons hk hv hs =>
   simp only[Mq,fQ]at h
   obtain⟨es',h1,h2⟩:=h
   exact OD (l:=Ef _ _ l) h2 (cn hk hv h1 he) hs
theorem Nw       {k v : Value} : ∀ {l : List KV}, (l.map (·.1)).Nodup → ((Ef   k v l).map (·.1)).Nodup ∧ (∀ p, p ∈ Ef   k v l ↔ p = (k, v) ∨ p ∈ l ∧ p.1 ≠ k) ∧ (∀ x, x ∈ (Ef   k v l).map (·.1) ↔ x = k ∨ x ∈ l.map (·.1))
  | [],_=>by
    refine⟨by simp[Ef],fun p=>by simp[Ef],fun x=>by simp[Ef]⟩
  | e::l,h=>by
    simp only[fm,gU]at h
    obtain⟨h1,h2,h3⟩:=Nw (k:=k) (v:=v) h.2
    by_cases he:e.1=k
    · have hm:Ef k v (e::l)=(k,v)::l:=by simp[Ef,he]
      rw[hm]
      have hno:∀p∈l,p.1≠k:=fun p hp hc=>h.1 (by rw[he,← hc];exact List.mem_map_of_mem hp)
      refine⟨by simp only[fm,gU];rw[← he];exact h,fun p=>?_,fun x=>by simp[← he]⟩
      simp only[gg]
      constructor
      · rintro (h' | h')
        · exact .inl h'
        · exact .inr ⟨.inr h',hno p h'⟩
      · rintro (h' | ⟨h' | h', h''⟩)
        · exact .inl h'
        · subst h';exact absurd he h''
        · exact .inr h'
    · have hm:Ef k v (e::l)=e::Ef k v l:=by simp[Ef,he]
      rw[hm]
      refine⟨?_,fun p=>?_,fun x=>?_⟩
      · simp only[fm,gU]
        refine⟨fun hc=>?_,h1⟩
        rcases(h3 _).1 hc with hc | hc
        · exact he hc
        · exact h.1 hc
      · simp only[gg,h2]
        constructor
        · rintro (h' | h' | ⟨h', h''⟩)
          · exact .inr ⟨.inl h',by rw[h'];exact he⟩
          · exact .inl h'
          · exact .inr ⟨.inr h',h''⟩
        · rintro (h' | ⟨h' | h', h''⟩)
          · exact .inr (.inl h')
          · exact .inl h'
          · exact .inr (.inr ⟨h',h''⟩)
      · simp only[fm,gg,h3]
        constructor
        · rintro (h' | h' | h')
          · exact .inr (.inl h')
          · exact .inl h'
          · exact .inr (.inr h')
        · rintro (h' | h' | h')
          · exact .inr (.inl h')
          · exact .inl h'
          · exact .inr (.inr h')
theorem LQ:∀ {m l:List KV},(l.map (·.1)).Nodup→(m.map (·.1)).Nodup→((LP l m).map (·.1)).Nodup∧∀p,p∈LP l m↔p∈m∨p∈l∧p.1 ∉ m.map (·.1)
  | [],l,h,_=>by simpa[LP]using h
  | e::m,l,h,hm=>by
    simp only[fm,gU]at hm
    obtain⟨h1,h2,_⟩:=Nw (k:=e.1) (v:=e.2) h
    obtain⟨h3,h4⟩:=LQ (m:=m) h1 hm.2
    refine⟨h3,fun p=>?_⟩
    show p∈LP (Ef e.1 e.2 l) m↔_
    rw[h4,h2]
    simp only[gg,fm,not_or]
    constructor
    · rintro (h' | ⟨h' | ⟨h', h''⟩, h3'⟩)
      · exact .inl (.inr h')
      · exact .inl (.inl h')
      · exact .inr ⟨h',h'',h3'⟩
    · rintro ((h' | h') | ⟨h', h'', h3'⟩)
      · exact .inr ⟨.inl h',by rw[h'];exact hm.1⟩
      · exact .inl h'
      · exact .inr ⟨.inr ⟨h',h''⟩,h3'⟩
theorem Ig{α:Type}:∀ {l m:List α},l.Nodup→m.Nodup→(∀x,x∈l↔x∈m)→l.Perm m
 | [],m,_,_,h=>by
  have:m=[]:=List.eq_nil_iff_forall_not_mem.2 fun x hx=>by have:=(h x).2 hx;cases this
  rw[this]
 | a::l,m,hl,hm,h=>by
  obtain⟨m1,m2,rfl⟩:=List.append_of_mem ((h a).1 fc)
  have hp:(m1++a::m2).Perm (a::(m1++m2)):=List.perm_middle
  have hm':(a::(m1++m2)).Nodup:=hp.nodup_iff.1 hm
  simp only[gU]at hl hm'
  refine List.Perm.trans (List.Perm.cons a (Ig hl.2 hm'.2 fun x=>?_)) hp.symm
  constructor
  ·intro hx
   have:=hp.mem_iff.1 ((h x).1 (fh _ hx))
   rcases gg.1 this with rfl | h'
   ·exact absurd hx hl.1
   ·exact h'
  ·intro hx
   have:=(h x).2 (hp.mem_iff.2 (fh _ hx))
   rcases gg.1 this with rfl | h'
   ·exact absurd hx hm'.1
   ·exact h'
theorem LW{α β:Type}(f:α→β):∀ {l:List β}{m:List α},l.Perm (m.map f)→∃l':List α,l'.Perm m∧l'.map f=l
 | [],m,h=>by
  have:m=[]:=by have:=h.length_eq;simp at this;exact gc this.symm
  subst this
  exact⟨[],.refl _,rfl⟩
 | b::l,m,h=>by
  obtain⟨a,ha,rfl⟩:=List.mem_map.1 (h.mem_iff.1 fc)
  obtain⟨m1,m2,rfl⟩:=List.append_of_mem ha
  have hp:(m1++a::m2).Perm (a::(m1++m2)):=List.perm_middle
  have:l.Perm ((m1++m2).map f):=(h.trans (hp.map f)).cons_inv
  obtain⟨l',h1,h2⟩:=LW f this
  exact⟨a::l',(h1.cons a).trans hp.symm,by simp[h2]⟩
theorem Gb{l:List KV}(h:(l.map (·.1)).Nodup):l.Nodup:=by
 induction l with
 | nil=>exact List.nodup_nil
 | cons a l ih =>
  simp only[fm,gU]at h
  exact gU.2 ⟨fun hc=>h.1 (List.mem_map_of_mem hc),ih h.2⟩
def Rv(v:Value):Option (DataW Value×List MemPlace):=some (.held v,[])
def NF(P:Program)(kt:TypeId)(es:Array MapEntry):Prop:=∀e∈es.toList,∃l,keyOf P kt e.key=some l
theorem cR{kt:TypeId}{es:Array MapEntry}{clock:Nat}(hst:MapKept.Stamped es clock)(hty:NF P kt es)(hsz:es.size≤maxLen):WideElems.Fit P kt Rv es clock:=
 ⟨hsz,hst,fun x hx=>let ⟨l,hl⟩:=hty x hx;⟨(l,.held x.val),by simp[WideElems.rd,hl,Rv]⟩⟩
theorem Mp{kt:TypeId}{es:Array MapEntry}{clock b:Nat}(hb:w.heap[b]? = some (.map es clock))(hst:MapKept.Stamped es clock)(hty:NF P kt es)(hsz:es.size≤maxLen):
  w.ownsMap P kt Rv b es.size (DataW.map ((es.toList.map (WideElems.rg P kt Rv)).foldr DataW.insert [])):=⟨es,clock,hb,cR hst hty hsz,fR _,rfl⟩
theorem YS{kt:TypeId}{e:MapEntry}{l:Lit}(h:keyOf P kt e.key=some l):WideElems.rg P kt Rv e=(l,.held e.val):=by simp[WideElems.rg,WideElems.rd,h,Rv]
theorem IA{kt:TypeId}{es:Array MapEntry}(hty:NF P kt es)(q:Lit×DataW Value):
  q∈(es.toList.map (WideElems.rg P kt Rv)).foldr DataW.insert []↔∃e∈es.toList,∃l,keyOf P kt e.key=some l∧q=(l,.held e.val):=by
 rw[mem_sorted,List.mem_map]
 constructor
 ·rintro⟨e,he,rfl⟩
  obtain⟨l,hl⟩:=hty e he
  exact⟨e,he,l,hl,YS hl⟩
 ·rintro⟨e,he,l,hl,rfl⟩
  exact⟨e,he,YS hl⟩
end
section
variable{P:Program}{ρ ρ1 ρ2:A5}{s s1 s2:AD}{w w1 w2:World}
theorem Aw.setG  (h : Aw  P ρ s w) {i : Nat} {o o1 : Af}   {rb : RB} (hg : s.heap.get i = some o) (hr : ρ i = some rb) (hw : wr o = true) (hp : FS    o = none)
    (hp1:FS o1=none) (hgr:w.grownBy w1 (some rb.b)) (ho:Cv P ρ w1 o1 rb):Aw P ρ (setObj s i o1) w1∧Fr ρ s w ρ (setObj s i o1) w1:=by
  have hsep:∀j oj rj,j≠i→s.heap.get j=some oj→ρ j=some rj→rj.b≠rb.b:=by
    intro j oj rj hne hj hrj e
    have:=(h.sep j i oj o rj rb hne hj hg hrj hr e hw).1
    rw[hp]at this
    cases this
  refine⟨⟨?_,?_,?_,?_⟩,?_⟩
  · intro j oj rj hj hrj
    rw[BU]at hj
    by_cases e:j=i
    · subst e
      rw[if_pos rfl]at hj
      injection hj with hj
      subst hj
      rw[hr]at hrj
      injection hrj with hrj
      subst hrj
      exact ho
    · rw[if_neg e]at hj
      exact(h.obj j oj rj hj hrj).mono (A5.le_refl ρ) (hgr.block _ (h.lt j rj hrj) (fun q=>hsep j oj rj e hj hrj (Option.some.inj q)))
  · intro j rj hrj
    exact fV (h.lt j rj hrj) hgr.size
  · intro j k oj ok rj rk hne hj hk hrj hrk hbb hwk
    rw[BU]at hj hk
    by_cases ej:j=i
    · subst ej
      have ek:k≠j:=fun e=>hne e.symm
      rw[if_neg ek]at hk
      rw[hr]at hrj
      injection hrj with hrj
      subst hrj
      exact absurd hbb.symm (hsep k ok rk ek hk hrk)
    · by_cases ek : k = i
      · subst ek
        rw[if_neg ej]at hj
        rw[hr]at hrk
        injection hrk with hrk
        subst hrk
        exact absurd hbb (hsep j oj rj ej hj hrj)
      · rw [if_neg ej] at hj
        rw[if_neg ek]at hk
        exact h.sep j k oj ok rj rk hne hj hk hrj hrk hbb hwk
  · intro j oj g hj hgo
    rw[BU]at hj
    by_cases e:j=i
    · subst e;exact⟨_,hr⟩
    · rw[if_neg e]at hj
      exact h.glb j oj g hj hgo
  · refine ⟨A5.le_refl  ρ, fun _ h _ => h, fR          _, hgr.size, hgr.os, hgr.tape, hgr.output, ?_, ?_, ?_⟩
    · intro b hb hno
      exact hgr.block b hb (fun e=>hno ⟨i,o,rb,hg,hw,hr,(Option.some.inj e).symm⟩)
    · rintro b ⟨j, oj, rj, hj, hwj, hrj, rfl⟩
      rw[BU]at hj
      by_cases e:j=i
      · subst e
        rw[hr]at hrj
        injection hrj with hrj
        subst hrj
        exact .inl ⟨j,o,rb,hg,hw,hr,rfl⟩
      · rw[if_neg e]at hj
        exact .inl ⟨j,oj,rj,hj,hwj,hrj,rfl⟩
    · intro j hrj _
      rw[BU,if_neg]
      intro e
      subst e
      rw[hr]at hrj
      cases hrj
theorem Aw.grown(h:Aw P ρ s w)(hgr:w.grownBy w1 none):Aw P ρ s w1∧Fr ρ s w ρ s w1:=by
 refine⟨⟨fun i o rb hi hr=>(h.obj i o rb hi hr).mono (A5.le_refl ρ) (hgr.block _ (h.lt i rb hr) (fun e=>by cases e)),fun i rb hr=>fV (h.lt i rb hr) hgr.size,h.sep,h.glb⟩,
  ⟨A5.le_refl ρ,fun _ h _=>h,fR _,hgr.size,hgr.os,hgr.tape,hgr.output,fun b hb _=>hgr.block b hb (fun e=>by cases e),fun b hb=>.inl hb,fun _ _ _=>rfl⟩⟩
open Go.Maps in
theorem aX{k:Lit}{d:DataW Value}{E:List (Lit×DataW Value)}(hk:WideAt.IsKeyLit k):
  ∃E',(DataW.map E).put k d=.map E'∧∀q,q∈E'↔q=(k,d)∨q∈E∧q.1≠k:=by
 refine⟨_,rfl,fun q=>?_⟩
 rw[(Go.WideShapes.insert_perm _ _).mem_iff,gg,List.mem_filter]
 have:=notKey_iff (H:=Value) (k:=k) (p:=q) hk
 unfold Go.ChangeMaps.notKey at this
 rw[this]
open Go.Maps in
theorem LO        : ∀ {Es Ed : List (Lit × DataW Value)}, (∀ p ∈ Es, WideAt.IsKeyLit p.1) → Es.Pairwise (fun p q => p.1 ≠ q.1) →
    ∃E',Es.foldl (fun D p=>DataW.put D p.1 p.2) (DataW.map Ed)=.map E'∧∀q,q∈E'↔q∈Es∨q∈Ed∧q.1 ∉ Es.map (·.1)
  | [],Ed,_,_=>⟨Ed,rfl,fun q=>by simp⟩
  | p::Es,Ed,hk,hd=>by
    obtain⟨E1,h1,h2⟩:=aX (k:=p.1) (d:=p.2) (E:=Ed) (hk p fc)
    rw[List.pairwise_cons]at hd
    obtain⟨E2,h3,h4⟩:=LO (Ed:=E1) (fun q hq=>hk q (fh _ hq)) hd.2
    refine⟨E2,by rw[List.foldl_cons,h1];exact h3,fun q=>?_⟩
    rw[h4,h2]
    simp only[gg,fm,not_or]
    constructor
    · rintro (h' | ⟨h' | ⟨h', h''⟩, h5⟩)
      · exact .inl (.inr h')
      · exact .inl (.inl h')
      · exact .inr ⟨h',h'',h5⟩
    · rintro ((h' | h') | ⟨h', h'', h5⟩)
      · refine .inr ⟨.inl h', ?_⟩
        rw[h']
        intro hc
        obtain⟨x,hx,e⟩:=List.mem_map.1 hc
        exact hd.1 x hx e.symm
      · exact .inl h'
      · exact .inr ⟨.inr ⟨h',h''⟩,h5⟩
def bJ(P:Program)(f:FuncId)(kt:TypeId):Prop:=
 (∀ (bd bs nd ns:Nat) (Dd Ds:DataW Value) (w:World),w.ownsMap P kt Rv bd nd Dd→w.ownsMap P kt Rv bs ns Ds→bd≠bs→nd+Maps.size Ds≤maxLen →
  Calls P f #[.map (some bd),.map (some bs)] w fun e w'=>e=.returned (.tuple #[])∧w'.ownsMap P kt Rv bd (nd+Maps.size Ds) (Lib.mergeD Dd Ds)∧w'.ownsMap P kt Rv bs ns Ds∧w.grownBy w' (some bd)) ∧
 ∀ (pd:Option Nat) (w:World),Calls P f #[.map pd,.map none] w fun e w'=>e=.returned (.tuple #[])∧w'=w.alloc (.mapIter none 0 #[] 0)
def PW(kt:TypeId)(s:AD):List AV→Option (AV×AD)
 | [.map _,.map none]=>some (.tuple [],s)
 | [.map (some i),.map (some j)]=>AG (!Nat.beq i j) <| (KA s kt i).bind fun es=>(KA s kt j).bind fun fs =>
  AG (Nat.ble (es.length+fs.length) 1000000) ((Mq fs es).bind fun es'=>some (.tuple [],setObj s i (.map kt es')))
 | _=>none
theorem Sv        {f : FuncId} {kt : TypeId} (hko : EQ     P kt = true) (hc : bJ    P f kt) (h : Aw  P ρ s w) {aS : List AV} {as' : Array Value} {v : AV} (hs : PW     kt s aS = some (v, s1)) (has : AJ    ρ aS as'.toList) :
    CallsIn Fence.wide 0 P f as' w (CS P ρ s w v s1):=by
  have K:=HQ hko
  refine callsIn_wide.2 ?_
  unfold PW at hs
  split at hs<;>first | (cases hs;done) | skip
  · injection hs with hs
    injection hs with e1 e2
    subst e1;subst e2
    obtain⟨l⟩:=as'
    cases has with
    | cons h1 h2 =>
    cases h2 with
    | cons h2 h3 =>
    cases h3
    cases h2
    cases h1<;>(
      refine(hc.2 _ w).mono ?_
      rintro e w' ⟨rfl,rfl⟩
      obtain⟨g1,g2⟩:=h.grown (w1:=w.alloc (.mapIter none 0 #[] 0)) ⟨rfl,rfl,rfl,by simp,fun b hb _=>EP hb⟩
      exact⟨ρ,.tuple .nil,g1,g2⟩)
  · rename_i i j
    obtain⟨hij,hs⟩:=AA hs
    simp only[fQ]at hs
    obtain⟨es,hes,fs,hfs,hs⟩:=hs
    obtain⟨hlen,hs⟩:=AA hs
    simp only[fQ]at hs
    obtain⟨es1,hput,hs⟩:=hs
    injection hs with hs
    injection hs with e1 e2
    subst e1;subst e2
    have hlen:es.length+fs.length≤1000000:=by simpa[fT]using hlen
    have hne:i≠j:=fun e=>by subst e;simp at hij
    obtain⟨l⟩:=as'
    cases has with
    | cons h1 h2 =>
    cases h2 with
    | cons h2 h3 =>
    cases h3
    cases h1 with
    | map hri =>
    cases h2 with
    | map hrj =>
    rename_i ri rj
    have hgi:=Ec hes
    have hgj:=Ec hfs
    obtain⟨ed,cd,d1,d2,⟨ld,d3,d4⟩,d5⟩:=(show GT P ρ w kt es ri from h.obj i _ ri hgi hri).ex
    obtain⟨ec,cc,c1,c2,⟨lc,c3,c4⟩,c5⟩:=(show GT P ρ w kt fs rj from h.obj j _ rj hgj hrj).ex
    have hbne:ri.b≠rj.b:=fun e=>by
      have:=(h.sep i j _ _ ri rj hne hgi hgj hri hrj e rfl).1
      cases this
    have sd:ed.size=es.length:=by have:=d4.length;have:=d3.length_eq;simp at this;omega
    have sc:ec.size=fs.length:=by have:=c4.length;have:=c3.length_eq;simp at this;omega
    have hmax:(1000000:Nat)≤maxLen:=by unfold maxLen;omega
    have od:=Mp d1 d2 d5 (by omega)
    have oc:=Mp c1 c2 c5 (by omega)
    have hsz:Maps.size (DataW.map ((ec.toList.map (WideElems.rg P kt Rv)).foldr DataW.insert []))=ec.size:=by
      show((ec.toList.map (WideElems.rg P kt Rv)).foldr DataW.insert []).length=_
      rw[(Go.WideShapes.sorted_perm _).length_eq]
      simp
    refine(hc.1 _ _ _ _ _ _ w od oc hbne (by rw[hsz];omega)).mono ?_
    rintro e w' ⟨rfl,o1,_,hgr⟩
    refine⟨ρ,.tuple .nil,?_⟩
    obtain⟨e2,k2,q1,q2,_,q4⟩:=o1
    have hty2:NF P kt e2:=fun x hx=>let ⟨y,hy⟩:=q2.reads x hx;⟨y.1,WideElems.rd_key hy⟩
    have hcanon:=oc.canonK K
    obtain⟨E,hE,hsorted,hkeys⟩:=hcanon
    have hE:(ec.toList.map (WideElems.rg P kt Rv)).foldr DataW.insert []=E:=by injection hE
    have hkl:∀p∈E,WideAt.IsKeyLit p.1:=fun p hp=>let ⟨v,hv⟩:=hkeys p hp;K.key hv
    obtain⟨E',m1,m2⟩:=LO (Es:=E) (Ed:=(ed.toList.map (WideElems.rg P kt Rv)).foldr DataW.insert []) hkl (Go.Maps.apart_of_rising hsorted)
    have hE2:(e2.toList.map (WideElems.rg P kt Rv)).foldr DataW.insert []=E':=by
      have:Lib.mergeD (DataW.map ((ed.toList.map (WideElems.rg P kt Rv)).foldr DataW.insert [])) (DataW.map ((ec.toList.map (WideElems.rg P kt Rv)).foldr DataW.insert []))=.map E':=by
        rw[hE];exact m1
      rw[this]at q4
      injection q4 with q4
      exact q4.symm
    have memE:∀q,q∈E↔∃e∈ec.toList,∃l,keyOf P kt e.key=some l∧q=(l,.held e.val):=fun q=>by rw[← hE];exact IA c5 q
    have mem2:∀p:KV,p∈e2.toList.map kv↔p∈ec.toList.map kv∨p∈ed.toList.map kv∧p.1 ∉ (ec.toList.map kv).map (·.1):=by
      have look:∀ {A:Array MapEntry} (hA:NF P kt A) {k v:Value} {lk:Lit},keyOf P kt k=some lk→((∃e∈A.toList,∃l,keyOf P kt e.key=some l∧(lk,DataW.held v)=(l,DataW.held e.val))↔(k,v)∈A.toList.map kv):=by
        intro A hA k v lk hk
        constructor
        · rintro⟨e,he,l,hl,hq⟩
          injection hq with q1 q2
          injection q2 with q2
          subst q1;subst q2
          exact List.mem_map.2 ⟨e,he,by rw[K.inj hk hl];rfl⟩
        · intro hm
          obtain⟨e,he,hq⟩:=List.mem_map.1 hm
          injection hq with q1 q2
          subst q1;subst q2
          exact⟨e,he,lk,hk,rfl⟩
      have main:∀ (k v:Value) (lk:Lit),keyOf P kt k=some lk→((k,v)∈e2.toList.map kv↔(k,v)∈ec.toList.map kv∨(k,v)∈ed.toList.map kv∧k ∉ (ec.toList.map kv).map (·.1)):=by
        intro k v lk hk
        rw[← look hty2 hk,← IA hty2,hE2,m2,memE,IA d5,look c5 hk,look d5 hk]
        refine or_congr Iff.rfl (and_congr Iff.rfl (not_congr ?_))
        constructor
        · intro hm
          obtain⟨q,hq,hqe⟩:=List.mem_map.1 hm
          obtain⟨e,he,l,hl,rfl⟩:=(memE q).1 hq
          simp only at hqe
          subst hqe
          refine List.mem_map.2 ⟨kv e,List.mem_map_of_mem he,?_⟩
          exact(K.inj hk hl).symm
        · intro hm
          obtain⟨q,hq,hqe⟩:=List.mem_map.1 hm
          obtain⟨e,he,rfl⟩:=List.mem_map.1 hq
          refine List.mem_map.2 ⟨(lk,.held e.val),(memE _).2 ⟨e,he,lk,?_,rfl⟩,rfl⟩
          have:e.key=k:=hqe
          rw[this];exact hk
      intro p
      constructor
      · intro hm
        obtain⟨e,he,hp⟩:=List.mem_map.1 hm
        obtain⟨l,hl⟩:=hty2 e he
        subst hp
        exact(main _ _ l hl).1 hm
      · intro hm
        have:∃l,keyOf P kt p.1=some l:=by
          rcases hm with hm | ⟨hm,_⟩
          · obtain ⟨e, he, hp⟩ := List.mem_map.1 hm
            obtain⟨l,hl⟩:=c5 e he
            subst hp;exact⟨l,hl⟩
          · obtain ⟨e, he, hp⟩ := List.mem_map.1 hm
            obtain⟨l,hl⟩:=d5 e he
            subst hp;exact⟨l,hl⟩
        obtain⟨l,hl⟩:=this
        exact(main p.1 p.2 l hl).2 hm
    have nd:∀ {A:Array MapEntry} {c:Nat},MapKept.Stamped A c→((A.toList.map kv).map (·.1)).Nodup:=fun hst=>by
      rw[List.map_map];exact hst.2.2
    have ndd:((ld.map kv).map (·.1)).Nodup:=((d3.map kv).map (·.1)).nodup_iff.2 (nd d2)
    have ndc:((lc.map kv).map (·.1)).Nodup:=((c3.map kv).map (·.1)).nodup_iff.2 (nd c2)
    obtain⟨u1,u2⟩:=LQ ndd ndc
    have hperm:(LP (ld.map kv) (lc.map kv)).Perm (e2.toList.map kv):=by
      refine Ig (Gb u1) (Gb (nd q2.stamped)) fun p=>?_
      rw[u2,mem2,(c3.map kv).mem_iff,(d3.map kv).mem_iff,((c3.map kv).map (·.1)).mem_iff]
    obtain⟨l2,p1,p2⟩:=LW kv hperm
    have her:CH ρ es1 l2:=CH.of_p (by rw[p2];exact OD hput d4.p c4.p)
    exact h.setG hgi hri rfl rfl rfl hgr ⟨e2,k2,q1,q2.stamped,⟨l2,p1,her⟩,hty2⟩
end
def IW:AV→Bool
 | .bool _ | .int _ _ | .str _=>true
 | .ptr none | .map none | .nilFunc | .nilIface=>true
 | .slice none n c=>Nat.beq n 0 && (match c with | some 0=>true | _=>false)
 | _=>false
def H4:List AV→Bool
 | []=>true
 | .agg cs::l=>cs.all IW && H4 l
 | v::l=>IW v && H4 l
theorem Co{ρ σ:A5}{v:AV}{v':Value}(h:IW v=true)(hr:AK ρ v v'):AK σ v v':=by
 cases hr with
 | bool b=>exact .bool b
 | int k n=>exact .int k n
 | str hs=>exact .str hs
 | ptrNil=>exact .ptrNil
 | sliceNil=>exact .sliceNil
 | mapNil=>exact .mapNil
 | nilFunc=>exact .nilFunc
 | nilIface=>exact .nilIface
 | _=>cases h
theorem KO{ρ σ:A5}:∀ {l:List AV}{l':List Value},l.all IW=true→AJ ρ l l'→AJ σ l l'
 | [],_,_,h=>by cases h;exact .nil
 | v::l,_,hp,h=>by
  cases h with
  | cons h1 h2 =>
   simp only[List.all_cons,Bool.and_eq_true]at hp
   exact .cons (Co hp.1 h1) (KO hp.2 h2)
theorem Gl         {ρ σ : A5}  : ∀ {l : List AV} {l' : List Value}, H4     l = true → AJ    ρ l l' → AJ    σ l l'
  | [],_,_,h=>by cases h;exact .nil
  | v::l,_,hp,h=>by
    cases h with
    | cons h1 h2 =>
      cases v with
      | agg cs =>
        simp only[H4,Bool.and_eq_true]at hp
        cases h1 with
        | agg h1=>exact .cons (.agg (KO hp.1 h1)) (Gl hp.2 h2)
      | _ =>
        simp only[H4,Bool.and_eq_true]at hp
        exact .cons (Co hp.1 h1) (Gl hp.2 h2)
structure Row where
 f:FuncId
 args:List AV
 res:AV
def SA:List Row→FuncId→List AV→Option AV
 | [],_,_=>none
 | r::l,f,xs=>bif Nat.beq r.f f && Ep.eqAs r.args xs then some r.res else SA l f xs
def bl(v:AV):Option (AV×AD)→Bool
 | some (u,_)=>Ep v u
 | none=>false
theorem Jq:∀ {T:List Row}{f:FuncId}{xs:List AV}{v:AV},SA T f xs=some v→∃r∈T,r.f=f∧r.args=xs∧r.res=v
 | [],_,_,_,h=>by cases h
 | r::T,f,xs,v,h=>by
  unfold SA at h
  cases hb:Nat.beq r.f f && Ep.eqAs r.args xs with
  | true =>
   rw[hb]at h
   injection h with h
   simp only[Bool.and_eq_true]at hb
   exact⟨r,fc,fW hb.1,E8 hb.2,h⟩
  | false =>
   rw[hb]at h
   obtain⟨q,h1,h2⟩:=Jq h
   exact⟨q,fh _ h1,h2⟩
section
variable{P:Program}{ρ ρ1 ρ2:A5}{s s1 s2:AD}{w w1 w2:World}
end
end
end Go.Proofs.YtdmgdlbodeemeaaGreatDoor.Am
set_option linter.unusedVariables false
set_option linter.unusedSimpArgs false
namespace Go.Proofs.YtdmgdlbodeemeaaGreatDoor.Am
open Go Go.Proofs Go.Shelf
noncomputable section
def Nn:Go.Shelf.Ren:=⟨fun | 161=>249 | 231=>278 | 227=>279 | 233=>280 | 235=>281 | 228=>300 | 197=>301 | 151=>302 | 260=>312 | 152=>313 | 137=>315 | 119=>316 | 224=>317 | 225=>318 | 217=>319 | 266=>320 | n=>n,fun | 9=>9 | 4=>4 | 3=>3 | 5=>5 | 117=>298 | 116=>297 | 0=>0 | 124=>301 | 105=>319 | 21=>21 | 119=>329 | 46=>193 | 139=>332 | 138=>331 | n=>n,fun | 3=>4 | 4=>5 | n=>n⟩
theorem aH:Go.Proofs.Lays.n161 Tryz.prog Nn:={
 mixed:=by kernel_rfl
 f119:=Tryz.func316.trans (congrArg some (by kernel_rfl))
 f137:=Tryz.func315.trans (congrArg some (by kernel_rfl))
 f151:=Tryz.func302.trans (congrArg some (by kernel_rfl))
 f152:=Tryz.func313.trans (congrArg some (by kernel_rfl))
 f161:=Tryz.func249.trans (congrArg some (by kernel_rfl))
 f197:=Tryz.func301.trans (congrArg some (by kernel_rfl))
 f217:=Tryz.func319.trans (congrArg some (by kernel_rfl))
 f224:=Tryz.func317.trans (congrArg some (by kernel_rfl))
 f225:=Tryz.func318.trans (congrArg some (by kernel_rfl))
 f227:=Tryz.func279.trans (congrArg some (by kernel_rfl))
 f228:=Tryz.func300.trans (congrArg some (by kernel_rfl))
 f231:=Tryz.func278.trans (congrArg some (by kernel_rfl))
 f233:=Tryz.func280.trans (congrArg some (by kernel_rfl))
 f235:=Tryz.func281.trans (congrArg some (by kernel_rfl))
 f260:=Tryz.func312.trans (congrArg some (by kernel_rfl))
 f266:=Tryz.func320.trans (congrArg some (by kernel_rfl))
 t0:=Tryz.underlying0
 a0:=Tryz.isAgg0
 z0:=Tryz.sizeOf0
 v0:=Tryz.zeroValue0
 t3:=Tryz.underlying3
 a3:=Tryz.isAgg3
 z3:=Tryz.sizeOf3
 v3:=Tryz.zeroValue3
 t4:=Tryz.underlying4
 a4:=Tryz.isAgg4
 z4:=Tryz.sizeOf4
 v4:=Tryz.zeroValue4
 t5:=Tryz.underlying5
 a5:=Tryz.isAgg5
 z5:=Tryz.sizeOf5
 v5:=Tryz.zeroValue5
 t9:=Tryz.underlying9
 a9:=Tryz.isAgg9
 z9:=Tryz.sizeOf9
 v9:=Tryz.zeroValue9
 t21:=Tryz.underlying21
 a21:=Tryz.isAgg21
 z21:=Tryz.sizeOf21
 v21:=Tryz.zeroValue21
 t46:=Tryz.underlying193
 a46:=Tryz.isAgg193
 z46:=Tryz.sizeOf193
 v46:=Tryz.zeroValue193
 t105:=Tryz.underlying319
 a105:=Tryz.isAgg319
 z105:=Tryz.sizeOf319
 v105:=Tryz.zeroValue319
 t116:=Tryz.underlying297
 a116:=Tryz.isAgg297
 z116:=Tryz.sizeOf297
 t117:=Tryz.underlying298
 a117:=Tryz.isAgg298
 z117:=Tryz.sizeOf298
 v117:=Tryz.zeroValue298
 t119:=Tryz.underlying329
 a119:=Tryz.isAgg329
 z119:=Tryz.sizeOf329
 t124:=Tryz.underlying301
 a124:=Tryz.isAgg301
 z124:=Tryz.sizeOf301
 v124:=Tryz.zeroValue301
 t138:=Tryz.underlying331
 a138:=Tryz.isAgg331
 z138:=Tryz.sizeOf331
 v138:=Tryz.zeroValue331
 t139:=Tryz.underlying332
 a139:=Tryz.isAgg332
 z139:=Tryz.sizeOf332
 v139:=Tryz.zeroValue332
 g3:=by kernel_rfl
 g4:=by kernel_rfl }
def Mb:Go.Shelf.Ren:=⟨fun | 171=>115 | 243=>165 | 246=>226 | 283=>266 | 284=>267 | 285=>268 | 286=>269 | 129=>211 | 317=>289 | 318=>290 | 319=>291 | 320=>292 | 337=>307 | 338=>308 | n=>n,fun | 3=>3 | 9=>9 | 2=>2 | 4=>4 | 171=>288 | 0=>0 | 53=>173 | 37=>22 | 5=>5 | 173=>290 | 212=>311 | 51=>192 | 20=>20 | 213=>312 | 46=>193 | 232=>327 | 233=>328 | n=>n,fun | 17=>1 | 18=>2 | 19=>3 | n=>n⟩
theorem Xj:Go.Proofs.Lays.n171 Tryz.prog Mb:={
 mixed:=by kernel_rfl
 f129:=Tryz.func211.trans (congrArg some (by kernel_rfl))
 f171:=Tryz.func115.trans (congrArg some (by kernel_rfl))
 f243:=Tryz.func165.trans (congrArg some (by kernel_rfl))
 f246:=Tryz.func226.trans (congrArg some (by kernel_rfl))
 f283:=Tryz.func266.trans (congrArg some (by kernel_rfl))
 f284:=Tryz.func267.trans (congrArg some (by kernel_rfl))
 f285:=Tryz.func268.trans (congrArg some (by kernel_rfl))
 f286:=Tryz.func269.trans (congrArg some (by kernel_rfl))
 f317:=Tryz.func289.trans (congrArg some (by kernel_rfl))
 f318:=Tryz.func290.trans (congrArg some (by kernel_rfl))
 f319:=Tryz.func291.trans (congrArg some (by kernel_rfl))
 f320:=Tryz.func292.trans (congrArg some (by kernel_rfl))
 f337:=Tryz.func307.trans (congrArg some (by kernel_rfl))
 f338:=Tryz.func308.trans (congrArg some (by kernel_rfl))
 t0:=Tryz.underlying0
 a0:=Tryz.isAgg0
 z0:=Tryz.sizeOf0
 v0:=Tryz.zeroValue0
 t2:=Tryz.underlying2
 a2:=Tryz.isAgg2
 z2:=Tryz.sizeOf2
 v2:=Tryz.zeroValue2
 t3:=Tryz.underlying3
 a3:=Tryz.isAgg3
 z3:=Tryz.sizeOf3
 v3:=Tryz.zeroValue3
 t4:=Tryz.underlying4
 a4:=Tryz.isAgg4
 z4:=Tryz.sizeOf4
 v4:=Tryz.zeroValue4
 t5:=Tryz.underlying5
 a5:=Tryz.isAgg5
 z5:=Tryz.sizeOf5
 v5:=Tryz.zeroValue5
 t9:=Tryz.underlying9
 a9:=Tryz.isAgg9
 z9:=Tryz.sizeOf9
 v9:=Tryz.zeroValue9
 t20:=Tryz.underlying20
 a20:=Tryz.isAgg20
 z20:=Tryz.sizeOf20
 v20:=Tryz.zeroValue20
 t37:=Tryz.underlying22
 a37:=Tryz.isAgg22
 z37:=Tryz.sizeOf22
 v37:=Tryz.zeroValue22
 t46:=Tryz.underlying193
 a46:=Tryz.isAgg193
 z46:=Tryz.sizeOf193
 v46:=Tryz.zeroValue193
 t51:=Tryz.underlying192
 a51:=Tryz.isAgg192
 z51:=Tryz.sizeOf192
 v51:=Tryz.zeroValue192
 t53:=Tryz.underlying173
 a53:=Tryz.isAgg173
 z53:=Tryz.sizeOf173
 v53:=Tryz.zeroValue173
 t171:=Tryz.underlying288
 a171:=Tryz.isAgg288
 z171:=Tryz.sizeOf288
 v171:=Tryz.zeroValue288
 t173:=Tryz.underlying290
 a173:=Tryz.isAgg290
 z173:=Tryz.sizeOf290
 v173:=Tryz.zeroValue290
 t212:=Tryz.underlying311
 a212:=Tryz.isAgg311
 z212:=Tryz.sizeOf311
 v212:=Tryz.zeroValue311
 t213:=Tryz.underlying312
 a213:=Tryz.isAgg312
 z213:=Tryz.sizeOf312
 t232:=Tryz.underlying327
 a232:=Tryz.isAgg327
 z232:=Tryz.sizeOf327
 v232:=Tryz.zeroValue327
 t233:=Tryz.underlying328
 a233:=Tryz.isAgg328
 z233:=Tryz.sizeOf328
 v233:=Tryz.zeroValue328
 g17:=by kernel_rfl
 g18:=by kernel_rfl
 g19:=by kernel_rfl }
end
end Go.Proofs.YtdmgdlbodeemeaaGreatDoor.Am
namespace Go.Proofs.YtdmgdlbodeemeaaGreatDoor.Am
open Go Go.Proofs Go.Shelf
noncomputable section
def FB:Go.Shelf.Ren:=⟨fun | 7=>179 | 10=>233 | n=>n,fun | 23=>107 | 26=>3 | 3=>34 | 28=>102 | 0=>0 | 27=>101 | 33=>57 | 4=>4 | n=>n,fun | n=>n⟩
theorem Np:Go.Proofs.SlLaysZI.n7 Tryz.prog FB:={
 mixed:=by kernel_rfl
 f7:=⟨Tryz.f179.name,by decide,Tryz.func179.trans (congrArg some (by kernel_rfl))⟩
 f10:=⟨Tryz.f233.name,by decide,Tryz.func233.trans (congrArg some (by kernel_rfl))⟩
 t0:=Tryz.underlying0
 a0:=Tryz.isAgg0
 z0:=Tryz.sizeOf0
 v0:=Tryz.zeroValue0
 t4:=Tryz.underlying4
 a4:=Tryz.isAgg4
 z4:=Tryz.sizeOf4
 v4:=Tryz.zeroValue4
 t23:=Tryz.underlying107
 a23:=Tryz.isAgg107
 z23:=Tryz.sizeOf107
 v23:=Tryz.zeroValue107
 t26:=Tryz.underlying3
 a26:=Tryz.isAgg3
 z26:=Tryz.sizeOf3
 v26:=Tryz.zeroValue3
 t27:=Tryz.underlying101
 a27:=Tryz.isAgg101
 z27:=Tryz.sizeOf101
 v27:=Tryz.zeroValue101
 t28:=Tryz.underlying102
 a28:=Tryz.isAgg102
 z28:=Tryz.sizeOf102
 v28:=Tryz.zeroValue102
 t33:=Tryz.underlying57
 a33:=Tryz.isAgg57
 z33:=Tryz.sizeOf57
 v33:=Tryz.zeroValue57 }
def FC:Go.Shelf.Ren:=⟨fun | 7=>98 | 10=>157 | n=>n,fun | 23=>130 | 26=>3 | 3=>131 | 28=>102 | 0=>0 | 27=>101 | 33=>57 | 4=>4 | n=>n,fun | n=>n⟩
theorem Nq:Go.Proofs.SlLaysZI.n7 Tryz.prog FC:={
 mixed:=by kernel_rfl
 f7:=⟨Tryz.f98.name,by decide,Tryz.func98.trans (congrArg some (by kernel_rfl))⟩
 f10:=⟨Tryz.f157.name,by decide,Tryz.func157.trans (congrArg some (by kernel_rfl))⟩
 t0:=Tryz.underlying0
 a0:=Tryz.isAgg0
 z0:=Tryz.sizeOf0
 v0:=Tryz.zeroValue0
 t4:=Tryz.underlying4
 a4:=Tryz.isAgg4
 z4:=Tryz.sizeOf4
 v4:=Tryz.zeroValue4
 t23:=Tryz.underlying130
 a23:=Tryz.isAgg130
 z23:=Tryz.sizeOf130
 v23:=Tryz.zeroValue130
 t26:=Tryz.underlying3
 a26:=Tryz.isAgg3
 z26:=Tryz.sizeOf3
 v26:=Tryz.zeroValue3
 t27:=Tryz.underlying101
 a27:=Tryz.isAgg101
 z27:=Tryz.sizeOf101
 v27:=Tryz.zeroValue101
 t28:=Tryz.underlying102
 a28:=Tryz.isAgg102
 z28:=Tryz.sizeOf102
 v28:=Tryz.zeroValue102
 t33:=Tryz.underlying57
 a33:=Tryz.isAgg57
 z33:=Tryz.sizeOf57
 v33:=Tryz.zeroValue57 }
def FD:Go.Shelf.Ren:=⟨fun | 7=>156 | 10=>214 | n=>n,fun | 23=>157 | 26=>3 | 3=>3 | 28=>102 | 0=>0 | 27=>101 | 33=>57 | 4=>4 | n=>n,fun | n=>n⟩
theorem Nr:Go.Proofs.SlLaysZI.n7 Tryz.prog FD:={
 mixed:=by kernel_rfl
 f7:=⟨Tryz.f156.name,by decide,Tryz.func156.trans (congrArg some (by kernel_rfl))⟩
 f10:=⟨Tryz.f214.name,by decide,Tryz.func214.trans (congrArg some (by kernel_rfl))⟩
 t0:=Tryz.underlying0
 a0:=Tryz.isAgg0
 z0:=Tryz.sizeOf0
 v0:=Tryz.zeroValue0
 t4:=Tryz.underlying4
 a4:=Tryz.isAgg4
 z4:=Tryz.sizeOf4
 v4:=Tryz.zeroValue4
 t23:=Tryz.underlying157
 a23:=Tryz.isAgg157
 z23:=Tryz.sizeOf157
 v23:=Tryz.zeroValue157
 t26:=Tryz.underlying3
 a26:=Tryz.isAgg3
 z26:=Tryz.sizeOf3
 v26:=Tryz.zeroValue3
 t27:=Tryz.underlying101
 a27:=Tryz.isAgg101
 z27:=Tryz.sizeOf101
 v27:=Tryz.zeroValue101
 t28:=Tryz.underlying102
 a28:=Tryz.isAgg102
 z28:=Tryz.sizeOf102
 v28:=Tryz.zeroValue102
 t33:=Tryz.underlying57
 a33:=Tryz.isAgg57
 z33:=Tryz.sizeOf57
 v33:=Tryz.zeroValue57 }
def Fn:Go.Shelf.Ren:=⟨fun | 6=>97 | 8=>141 | 9=>83 | 11=>191 | 13=>154 | 12=>153 | 23=>210 | 24=>211 | 14=>201 | 15=>202 | 16=>203 | 17=>204 | 18=>205 | 19=>206 | 20=>207 | 21=>208 | 22=>209 | 25=>252 | 26=>253 | 27=>254 | 28=>255 | 29=>256 | 30=>174 | 31=>287 | n=>n,fun | 26=>3 | 28=>102 | 24=>52 | 0=>0 | 3=>3 | 37=>193 | 48=>192 | 50=>173 | 4=>4 | 40=>239 | 39=>238 | 45=>114 | 5=>5 | 9=>9 | 51=>278 | 55=>282 | 57=>307 | 58=>308 | 33=>57 | n=>n,fun | n=>n⟩
theorem DF:Go.Proofs.SlLaysZI.n6 Tryz.prog Fn:={
 mixed:=by kernel_rfl
 f6:=⟨Tryz.f97.name,by decide,Tryz.func97.trans (congrArg some (by kernel_rfl))⟩
 f8:=⟨Tryz.f141.name,by decide,Tryz.func141.trans (congrArg some (by kernel_rfl))⟩
 f11:=⟨Tryz.f191.name,by decide,Tryz.func191.trans (congrArg some (by kernel_rfl))⟩
 t0:=Tryz.underlying0
 a0:=Tryz.isAgg0
 z0:=Tryz.sizeOf0
 v0:=Tryz.zeroValue0
 t24:=Tryz.underlying52
 a24:=Tryz.isAgg52
 z24:=Tryz.sizeOf52
 v24:=Tryz.zeroValue52
 t26:=Tryz.underlying3
 a26:=Tryz.isAgg3
 z26:=Tryz.sizeOf3
 v26:=Tryz.zeroValue3
 t28:=Tryz.underlying102
 a28:=Tryz.isAgg102
 z28:=Tryz.sizeOf102
 v28:=Tryz.zeroValue102
 i26:=by kernel_rfl }
def Mc:Go.Shelf.Ren:=⟨fun | 5=>83 | 8=>154 | 7=>153 | 19=>210 | 20=>211 | 10=>201 | 11=>202 | 12=>203 | 13=>204 | 14=>205 | 15=>206 | 16=>207 | 17=>208 | 18=>209 | 30=>252 | 31=>253 | 32=>254 | 33=>255 | 34=>256 | 35=>174 | 40=>287 | n=>n,fun | 23=>52 | 25=>3 | 3=>3 | 32=>193 | 22=>52 | 0=>0 | 44=>192 | 46=>173 | 4=>4 | 36=>239 | 35=>238 | 41=>114 | 5=>5 | 9=>9 | 53=>278 | 57=>282 | 63=>307 | 64=>308 | n=>n,fun | n=>n⟩
theorem Ns:Go.Proofs.SlLaysM.n5 Tryz.prog Mc:={
 mixed:=by kernel_rfl
 f5:=⟨Tryz.f83.name,by decide,Tryz.func83.trans (congrArg some (by kernel_rfl))⟩
 f7:=⟨Tryz.f153.name,by decide,Tryz.func153.trans (congrArg some (by kernel_rfl))⟩
 f8:=Tryz.func154.trans (congrArg some (by kernel_rfl))
 f10:=⟨Tryz.f201.name,by decide,Tryz.func201.trans (congrArg some (by kernel_rfl))⟩
 f11:=⟨Tryz.f202.name,by decide,Tryz.func202.trans (congrArg some (by kernel_rfl))⟩
 f12:=⟨Tryz.f203.name,by decide,Tryz.func203.trans (congrArg some (by kernel_rfl))⟩
 f13:=⟨Tryz.f204.name,by decide,Tryz.func204.trans (congrArg some (by kernel_rfl))⟩
 f14:=⟨Tryz.f205.name,by decide,Tryz.func205.trans (congrArg some (by kernel_rfl))⟩
 f15:=⟨Tryz.f206.name,by decide,Tryz.func206.trans (congrArg some (by kernel_rfl))⟩
 f16:=⟨Tryz.f207.name,by decide,Tryz.func207.trans (congrArg some (by kernel_rfl))⟩
 f17:=⟨Tryz.f208.name,by decide,Tryz.func208.trans (congrArg some (by kernel_rfl))⟩
 f18:=⟨Tryz.f209.name,by decide,Tryz.func209.trans (congrArg some (by kernel_rfl))⟩
 f19:=Tryz.func210.trans (congrArg some (by kernel_rfl))
 f20:=Tryz.func211.trans (congrArg some (by kernel_rfl))
 f30:=⟨Tryz.f252.name,by decide,Tryz.func252.trans (congrArg some (by kernel_rfl))⟩
 f31:=Tryz.func253.trans (congrArg some (by kernel_rfl))
 f32:=Tryz.func254.trans (congrArg some (by kernel_rfl))
 f33:=⟨Tryz.f255.name,by decide,Tryz.func255.trans (congrArg some (by kernel_rfl))⟩
 f34:=⟨Tryz.f256.name,by decide,Tryz.func256.trans (congrArg some (by kernel_rfl))⟩
 f35:=⟨Tryz.f174.name,by decide,Tryz.func174.trans (congrArg some (by kernel_rfl))⟩
 f40:=⟨Tryz.f287.name,by decide,Tryz.func287.trans (congrArg some (by kernel_rfl))⟩
 t0:=Tryz.underlying0
 a0:=Tryz.isAgg0
 z0:=Tryz.sizeOf0
 v0:=Tryz.zeroValue0
 t3:=Tryz.underlying3
 a3:=Tryz.isAgg3
 z3:=Tryz.sizeOf3
 v3:=Tryz.zeroValue3
 t4:=Tryz.underlying4
 a4:=Tryz.isAgg4
 z4:=Tryz.sizeOf4
 v4:=Tryz.zeroValue4
 t5:=Tryz.underlying5
 a5:=Tryz.isAgg5
 z5:=Tryz.sizeOf5
 v5:=Tryz.zeroValue5
 t9:=Tryz.underlying9
 a9:=Tryz.isAgg9
 z9:=Tryz.sizeOf9
 v9:=Tryz.zeroValue9
 t22:=Tryz.underlying52
 a22:=Tryz.isAgg52
 z22:=Tryz.sizeOf52
 v22:=Tryz.zeroValue52
 t23:=Tryz.underlying52
 a23:=Tryz.isAgg52
 z23:=Tryz.sizeOf52
 v23:=Tryz.zeroValue52
 t25:=Tryz.underlying3
 a25:=Tryz.isAgg3
 z25:=Tryz.sizeOf3
 v25:=Tryz.zeroValue3
 t32:=Tryz.underlying193
 a32:=Tryz.isAgg193
 z32:=Tryz.sizeOf193
 v32:=Tryz.zeroValue193
 t35:=Tryz.underlying238
 a35:=Tryz.isAgg238
 z35:=Tryz.sizeOf238
 v35:=Tryz.zeroValue238
 t36:=Tryz.underlying239
 a36:=Tryz.isAgg239
 z36:=Tryz.sizeOf239
 v36:=Tryz.zeroValue239
 t41:=Tryz.underlying114
 a41:=Tryz.isAgg114
 z41:=Tryz.sizeOf114
 v41:=Tryz.zeroValue114
 t44:=Tryz.underlying192
 a44:=Tryz.isAgg192
 z44:=Tryz.sizeOf192
 v44:=Tryz.zeroValue192
 t46:=Tryz.underlying173
 a46:=Tryz.isAgg173
 z46:=Tryz.sizeOf173
 v46:=Tryz.zeroValue173
 t53:=Tryz.underlying278
 a53:=Tryz.isAgg278
 z53:=Tryz.sizeOf278
 v53:=Tryz.zeroValue278
 t57:=Tryz.underlying282
 a57:=Tryz.isAgg282
 z57:=Tryz.sizeOf282
 v57:=Tryz.zeroValue282
 t63:=Tryz.underlying307
 a63:=Tryz.isAgg307
 z63:=Tryz.sizeOf307
 v63:=Tryz.zeroValue307
 t64:=Tryz.underlying308
 a64:=Tryz.isAgg308
 z64:=Tryz.sizeOf308
 v64:=Tryz.zeroValue308 }
def FA:Go.Shelf.Ren:=⟨fun | 5=>117 | n=>n,fun | 23=>157 | 24=>157 | 26=>3 | 27=>3 | 0=>0 | 4=>4 | n=>n,fun | n=>n⟩
theorem No:Go.Proofs.SlLaysX.n5 Tryz.prog FA:={
 mixed:=by kernel_rfl
 f5:=⟨Tryz.f117.name,by decide,Tryz.func117.trans (congrArg some (by kernel_rfl))⟩
 t0:=Tryz.underlying0
 a0:=Tryz.isAgg0
 z0:=Tryz.sizeOf0
 v0:=Tryz.zeroValue0
 t4:=Tryz.underlying4
 a4:=Tryz.isAgg4
 z4:=Tryz.sizeOf4
 v4:=Tryz.zeroValue4
 t23:=Tryz.underlying157
 a23:=Tryz.isAgg157
 z23:=Tryz.sizeOf157
 v23:=Tryz.zeroValue157
 t24:=Tryz.underlying157
 a24:=Tryz.isAgg157
 z24:=Tryz.sizeOf157
 v24:=Tryz.zeroValue157
 a26:=Tryz.isAgg3
 z26:=Tryz.sizeOf3
 a27:=Tryz.isAgg3
 z27:=Tryz.sizeOf3 }
end
end Go.Proofs.YtdmgdlbodeemeaaGreatDoor.Am
set_option linter.unusedVariables false
set_option linter.unusedSimpArgs false
namespace Go.Proofs.YtdmgdlbodeemeaaGreatDoor.Am
open Go
noncomputable section
section
variable{α:Type}
theorem AH.setF_succ(v:Option α)(f:Nat)(t:AH α)(k:Nat):AH.setF v (f+1) t (k+1)=if k % 2=0 then .node t.val (AH.setF v f t.left (k / 2)) t.right else .node t.val t.left (AH.setF v f t.right (k / 2)):=by
 by_cases h:k % 2=0
 ·have hb:Nat.beq (k % 2) 0=true:=by rw[h];rfl
  simp only[AH.setF,hb,cond_true,AH.nodeL_eq,AH.nodeR_eq]
  rw[if_pos h]
 ·have hb:Nat.beq (k % 2) 0=false:=AH.beq_no h
  simp only[AH.setF,hb,cond_false,AH.nodeL_eq,AH.nodeR_eq]
  rw[if_neg h]
theorem AH.setF_fuel   (v : Option α) : ∀ (f g : Nat) (t : AH   α) (k : Nat), k < f → k < g → AH.setF   v f t k = AH.setF   v g t k := by
  intro f
  induction f with
  | zero=>intro g t k h;omega
  | succ f ih =>
    intro g t k h1 h2
    cases g with
    | zero=>omega
    | succ g =>
      cases k with
      | zero=>rfl
      | succ k =>
        rw[AH.setF_succ,AH.setF_succ,ih g t.left (k / 2) (by omega) (by omega),ih g t.right (k / 2) (by omega) (by omega)]
theorem AH.setF_same(v w:Option α):∀ (f:Nat)(t:AH α)(k:Nat),k<f→AH.setF w f (AH.setF v f t k) k=AH.setF w f t k:=by
 intro f
 induction f with
 | zero=>intro t k h;omega
 | succ f ih =>
  intro t k h
  cases k with
  | zero=>rfl
  | succ k =>
   rw[AH.setF_succ,AH.setF_succ,AH.setF_succ]
   by_cases hk:k % 2=0
   ·simp only[hk,if_true,AH.val,AH.left,AH.right];rw[ih _ _ (by omega)]
   ·simp only[hk,if_false,AH.val,AH.left,AH.right];rw[ih _ _ (by omega)]
theorem AH.setF_comm   (v w : Option α) : ∀ (f : Nat) (t : AH   α) (k j : Nat), k < f → j < f → k ≠ j → AH.setF   w f (AH.setF   v f t k) j = AH.setF   v f (AH.setF   w f t j) k := by
  intro f
  induction f with
  | zero=>intro t k j h;omega
  | succ f ih =>
    intro t k j h1 h2 hne
    cases k with
    | zero =>
      cases j with
      | zero=>omega
      | succ j =>
        rw[AH.setF_succ,AH.setF_succ]
        by_cases hj:j % 2=0
        · simp only[hj,if_true,AH.setF,AH.val,AH.left,AH.right]
        · simp only[hj,if_false,AH.setF,AH.val,AH.left,AH.right]
    | succ k =>
      cases j with
      | zero =>
        rw[AH.setF_succ,AH.setF_succ]
        by_cases hk:k % 2=0
        · simp only[hk,if_true,AH.setF,AH.val,AH.left,AH.right]
        · simp only[hk,if_false,AH.setF,AH.val,AH.left,AH.right]
      | succ j =>
        simp only[AH.setF_succ]
        by_cases hk:k % 2=0<;>by_cases hj:j % 2=0
        · simp only[hk,hj,if_true,AH.val,AH.left,AH.right];rw[ih _ _ _ (by omega) (by omega) (by omega)]
        · simp only[hk,hj,if_true,if_false,AH.val,AH.left,AH.right]
        · simp only[hk,hj,if_true,if_false,AH.val,AH.left,AH.right]
        · simp only[hk,hj,if_false,AH.val,AH.left,AH.right];rw[ih _ _ _ (by omega) (by omega) (by omega)]
theorem AH.set_same(t:AH α)(k:Nat)(v w:α):(t.set k v).set k w=t.set k w:=AH.setF_same _ _ _ _ _ (by omega)
theorem AH.set_comm(t:AH α){k j:Nat}(h:k≠j)(v w:α):(t.set k v).set j w=(t.set j w).set k v:=by
 unfold AH.set AH.put
 rw[AH.setF_fuel _ (k+1) (k+j+1) t k (by omega) (by omega),AH.setF_fuel _ (j+1) (k+j+1) _ j (by omega) (by omega),AH.setF_fuel _ (j+1) (k+j+1) t j (by omega) (by omega),AH.setF_fuel _ (k+1) (k+j+1) _ k (by omega) (by omega)]
 exact AH.setF_comm _ _ _ _ _ _ (by omega) (by omega) h
theorem AH.fill_set_below(l:List α):∀ (t:AH α)(k j:Nat)(v:α),j<k→(t.fill k l).set j v=(t.set j v).fill k l:=by
 induction l with
 | nil=>intro t k j v _;rfl
 | cons a l ih =>
  intro t k j v h
  simp only[AH.fill]
  rw[ih _ _ _ _ (by omega),AH.set_comm t (by omega)]
theorem AH.fill_set(l:List α):∀ (t:AH α)(k i:Nat)(v:α),i<l.length→(t.fill k l).set (k+i) v=t.fill k (l.set i v):=by
  induction l with
  | nil=>intro t k i v h;simp at h
  | cons a l ih =>
    intro t k i v h
    cases i with
    | zero =>
      simp only[AH.fill,fi,gK]
      rw[AH.fill_set_below _ _ _ _ _ (by omega),AH.set_same]
    | succ i =>
      simp only[AH.fill,List.set_cons_succ]
      rw[show k+(i+1)=k+1+i from by omega]
      exact ih _ _ _ _ (by simpa using h)
end
def SM(l:List AV):AH AV:=AH.fill .leaf 0 l
theorem Mo(l:List AV)(k:Nat):(SM l).get k=l[k]? := by
 unfold SM
 rw[AH.get_fill]
 by_cases h:k<l.length
 ·rw[if_pos ⟨fa _,by omega⟩];rfl
 ·rw[if_neg (by omega),ff (by omega)];rfl
def DI(cs:List AV)(off:Nat)(vs:List AV):List AV:=match vs with
 | []=>cs
 | v::vs=>DI (cs.set off v) (off+1) vs
theorem Ge:∀ (vs cs:List AV)(off:Nat),(DI cs off vs).length=cs.length
 | [],_,_=>rfl
 | v::vs,cs,off=>by unfold DI;rw[Ge];simp
theorem N4:∀ (vs cs:List AV)(off:Nat),off+vs.length≤cs.length→(SM cs).fill off vs=SM (DI cs off vs)
 | [],_,_,_=>rfl
 | v::vs,cs,off,h=>by
  simp only[AH.fill,DI]
  have e:(SM cs).set off v=SM (cs.set off v):=by
   unfold SM
   have:=AH.fill_set cs .leaf 0 off v (by simp at h;omega)
   rwa[fY]at this
  rw[e]
  exact N4 vs _ _ (by simp at h ⊢;omega)
theorem Kh         : ∀ (vs cs : List AV) (off k : Nat), off + vs.length ≤ cs.length → (DI     cs off vs)[k]? = if off ≤ k ∧ k < off + vs.length then vs[k - off]? else cs[k]?
  | [],cs,off,k,_=>by simp[DI];omega
  | v::vs,cs,off,k,h=>by
    simp only[gH]at h
    simp only[DI]
    rw[Kh vs _ _ _ (by simp;omega)]
    by_cases h1:off+1≤k∧k<off+1+vs.length
    · rw[if_pos h1,if_pos (by simp;omega),show k - off=(k - (off+1))+1 from by omega];rfl
    · rw[if_neg h1]
      by_cases h2:k=off
      · subst h2
        rw[if_pos (by simp),gy (by omega)]
        simp
      · rw[if_neg (by simp;omega),gV (Ne.symm h2)]
def R(e sz:Nat)(sp:Bool)(cs:List AV):Af:=.row { elem:=e,sz,n:=cs.length,c:=SM cs,spare:=sp,mode:=.own,par:=none,bytes:=true }
theorem Wv(s:AD)(i:Nat)(o:Af):(setObj s i o).heap.get i=some o:=by
 show(s.heap.set i o).get i=_
 rw[AH.get_set,if_pos rfl]
theorem Ww{s:AD}{i j:Nat}(o:Af)(h:j≠i):(setObj s i o).heap.get j=s.heap.get j:=by
 show(s.heap.set i o).get j=_
 rw[AH.get_set,if_neg h]
def YV:Option Af→Option B7
 | some (.row r)=>some r
 | _=>none
def LK(o:Option Af)(off:Nat):Option AV:=(YV o).bind fun r=>AG (Nat.blt off r.n) (r.c.get off)
def J4(o:Option Af)(off n:Nat):Option (List AV):=(YV o).bind fun r=>AG (Nat.ble (off+n) r.n) (r.c.take off n)
def mapO(kt:TypeId):Option Af→Option (List (AV×AV))
 | some (.map kt' es)=>AG (Nat.beq kt' kt) (some es)
 | _=>none
theorem aj(s:AD)(i:Nat):rowAt s i=YV (s.heap.get i):=rfl
theorem aM(s:AD)(i off:Nat):Cb s i off=LK (s.heap.get i) off:=rfl
theorem Me(s:AD)(i off n:Nat):Be s i off n=J4 (s.heap.get i) off n:=rfl
theorem Wn(e sz:Nat)(sp:Bool)(cs:List AV)(off:Nat):LK (some (R e sz sp cs)) off=cs[off]? := by
 show AG (Nat.blt off cs.length) ((SM cs).get off)=_
 rw[Mo]
 by_cases h:off<cs.length
 ·have:Nat.blt off cs.length=true:=by rw[fb];exact h
  rw[this];rfl
 ·have:Nat.blt off cs.length=false:=by
   cases hb:Nat.blt off cs.length with
   | false=>rfl
   | true=>rw[fb]at hb;exact absurd hb h
  rw[this,ff (by omega)];rfl
theorem Oa:∀ (n:Nat)(cs:List AV)(off:Nat),off+n≤cs.length→(SM cs).take off n=some ((cs.drop off).take n)
 | 0,cs,off,_=>by simp[AH.take]
 | n+1,cs,off,h=>by
  have hg:cs[off]? = some cs[off]:=fX (by omega)
  simp only[AH.take,Mo,hg,Oa n cs (off+1) (by omega)]
  rw[show cs.drop off=cs[off]::cs.drop (off+1)from(gE (by omega))]
  rfl
theorem Wo{e sz:Nat}{sp:Bool}{cs:List AV}{off n:Nat}(h:off+n≤cs.length):J4 (some (R e sz sp cs)) off n=some ((cs.drop off).take n):=by
 show AG (Nat.ble (off+n) cs.length) ((SM cs).take off n)=_
 have:Nat.ble (off+n) cs.length=true:=by rw[fT];exact h
 rw[this,Oa n cs off h];rfl
theorem OV{s:AD}{i off e sz:Nat}{sp:Bool}{cs vs:List AV}(hg:s.heap.get i=some (R e sz sp cs))(h:off+vs.length≤cs.length)(ha:Ar vs=true):
  CD s i off vs=some (match vs with | []=>s | _::_=>setObj s i (R e sz sp (DI cs off vs))):=by
 cases vs with
 | nil=>rfl
 | cons v vs =>
  have hb:Nat.ble (off+(v::vs).length) cs.length=true:=by rw[fT];exact h
  show(rowAt s i).bind _=_
  rw[aj,hg]
  show AG (CQ .own && Nat.ble (off+(v::vs).length) cs.length && Ar (v::vs)) _=_
  rw[hb,ha]
  show some (setObj s i _)=some (setObj s i _)
  rw[show R e sz sp (DI cs off (v::vs))=Af.row { elem:=e,sz,n:=(DI cs off (v::vs)).length,c:=SM (DI cs off (v::vs)),spare:=sp,mode:=.own,par:=none,bytes:=true }from rfl,Ge,← N4 _ _ _ h]
def CR(e:TypeId)(s:AD)(v:AV)(n sz:Nat)(cs:List AV)(O:List Nat):Prop:=
 (∃a,v=.slice a n (some n)∧O=[]∧cs.length=n * sz∧(a=none→n=0)∧∀i o,a=some (i,o)→i<s.next∧Be s i o (n * sz)=some cs) ∨
 (∃i p,v=.slice (some (i,0)) n none∧FX e 0 s.next s v n sz cs i p∧O=i::p.toList)
theorem CR.nil{e:TypeId}(s:AD)(sz:Nat):CR e s (.slice none 0 (some 0)) 0 sz [] []:=.inl ⟨none,rfl,rfl,by simp,fun _=>rfl,fun i o h=>by cases h⟩
theorem CR.len{e:TypeId}{s:AD}{v:AV}{n sz:Nat}{cs:List AV}{O:List Nat}(h:CR e s v n sz cs O):cs.length=n * sz:=by
 rcases h with⟨a,h1,h2,h3,h4⟩ | ⟨i,p,h1,h2,h3⟩
 ·exact h3
 ·exact h2.len
theorem Xo{s s':AD}{i o n:Nat}(h:s'.heap.get i=s.heap.get i):Be s' i o n=Be s i o n:=by unfold Be rowAt;rw[h]
def C6:AV→Option Nat
 | .slice (some (i,_)) _ _=>some i
 | _=>none
theorem CR.frame{e:TypeId}{s s':AD}{v:AV}{n sz:Nat}{cs:List AV}{O:List Nat}(h:CR e s v n sz cs O)(hn:s.next≤s'.next)(hf:∀j,C6 v=some j→s'.heap.get j=s.heap.get j):CR e s' v n sz cs O:=by
 rcases h with⟨a,rfl,h2,h3,h4,h5⟩ | ⟨i,p,rfl,h2,h3⟩
 ·refine .inl ⟨a,rfl,h2,h3,h4,fun i o e=>?_⟩
  obtain⟨k1,k2⟩:=h5 i o e
  subst e
  exact⟨by omega,by rw[Xo (hf i rfl)];exact k2⟩
 ·exact .inr ⟨i,p,rfl,(h2.mono hn).frame fun _ _=>hf i rfl,h3⟩
theorem CR.cells   {e : TypeId} {s : AD}  {v : AV} {n sz : Nat} {cs : List AV} {O : List Nat} (h : CR   e s v n sz cs O) : ∃ a cap, v = .slice a n cap ∧ Ah      s.next s a cs := by
  rcases h with⟨a,rfl,h2,h3,h4,h5⟩ | ⟨i,p,rfl,h2,h3⟩
  · refine⟨a,_,rfl,fun k u hk=>?_⟩
    have hlt:k<cs.length:=by
      rcases fS k cs.length with h | h
      · exact h
      · rw[ff h]at hk;cases hk
    cases a with
    | none=>rw[h4 rfl]at h3;simp at h3;subst h3;simp at hlt
    | some io =>
      obtain⟨i,o⟩:=io
      obtain⟨k1,k2⟩:=h5 i o rfl
      refine⟨i,o,rfl,k1,?_⟩
      unfold Be at k2
      simp only[fQ]at k2
      obtain⟨r,g1,g2⟩:=k2
      have g3:Nat.ble (o+n * sz) r.n=true∧r.c.take o (n * sz)=some cs:=by
        cases hb:Nat.ble (o+n * sz) r.n with
        | true=>rw[hb]at g2;exact⟨rfl,g2⟩
        | false=>rw[hb]at g2;cases g2
      have g4:o+n * sz≤r.n:=by simpa[fT]using g3.1
      have g5:=AH.take_get g3.2 k (by omega)
      rw[hk]at g5
      have g6:s.heap.get i=some (.row r):=by
        unfold rowAt at g1
        split at g1
        · injection g1 with g1;subst g1;assumption
        · cases g1
      exact GC g6 (by omega) g5
  · obtain⟨a,cap,e,hc⟩:=h2.cells
    exact⟨a,cap,e,hc⟩
theorem CR.append   {P : Program} {st xt e : TypeId} {sz by_ : Nat} (ht : P.underlying st = some (.slice e)) (hs : A3    P e = some sz) (hb : Cx     P e = some by_) (h0 : 0 < sz) (hx : Bs           P xt = true) (hz : Cm     P e sz = true) {s : AD}  {v : AV} {n : Nat} {cs : List AV} {O : List Nat} (h : CR   e s v n sz cs O)
    {ax:Option (Nat×Nat)} {m:Nat} {cx:Option Nat} {add:List AV} (hsrc:B1 P s e sz (.slice ax m cx)=some (m,add)) (ha:add.length=m * sz) (hc:Ar add=true) (h1:(n+m) * by_≤1099511627776) (h2:n+m≤1099511627776):
    ∃v' s' O',A8 P s [st,xt] [v,.slice ax m cx]=some (v',s')∧CR e s' v' (n+m) sz (cs++add) O'∧s.next≤s'.next∧s'.next≤s.next+1∧(∀j,j<s.next→j ∉ O→s'.heap.get j=s.heap.get j)∧(∀j∈O',j∈O∨s.next≤j)∧(∀j,C6 v'=some j→C6 v=some j∨s.next≤j):=by
  have hlen:=h.len
  rcases gO m with rfl | hm
  ·
    have hadd:add=[]:=by simp at ha;exact ha
    subst hadd
    rw[gh,fi]
    rcases h with⟨a,rfl,rfl,h3,h4,h5⟩ | ⟨i,p,rfl,h6,h7⟩
    · refine ⟨.slice a n (some n), s, [], ?_, .inl ⟨a, rfl, rfl, h3, h4, h5⟩, fR          _, gD          _, fun _ _ _ => rfl, fun j hj => (by cases hj), fun j hj => .inl hj⟩
      rw[DC ht hs hb h0 hx hsrc hc h1 h2]
      cases a with
      | none=>rw[h4 rfl];rfl
      | some io =>
        obtain⟨i,o⟩:=io
        simp only[appTo,FZ,fi,Cw (fR n),cond_true,CD,Option.bind_some]
    · refine ⟨.slice (some (i, 0)) n none, s, O, ?_, .inr ⟨i, p, rfl, h6, h7⟩, fR          _, gD          _, fun _ _ _ => rfl, fun j hj => .inl hj, fun j hj => .inl hj⟩
      rw[DC ht hs hb h0 hx hsrc hc h1 h2]
      rcases h6.ex with⟨e',_⟩ | ⟨_,k1,k2,k3,r,k4,k5,k6,k7,k8,k9⟩
      · cases e'
      · have hrow : rowAt s i = some r := by simp [rowAt, k4]
        have hrn:r.n=n * sz:=by rw[k5.1,h6.len]
        simp only[appTo,hrow,Option.bind_some,Iy,k8,Gi rfl,AG,cond_true,fi,fY]
        rw[show Nat.ble (n * sz) r.n=true from Cw (by omega)]
        simp only[cond_true,CD,Option.bind_some]
  · rcases h with ⟨a, rfl, rfl, h3, h4, h5⟩ | ⟨i, p, rfl, h6, h7⟩
    ·
      refine⟨.slice (some (s.next,0)) (n+m) none,newObj s (CZ e sz (AH.fill .leaf 0 (cs++add)) (cs++add).length none true),[s.next],?_,?_,gD _,fR _,fun j hj _=>by rw[AN,if_neg (by omega)],fun j hj=>by simp at hj;right;omega,fun j hj=>by simp[C6]at hj;right;omega⟩
      · rw[DC ht hs hb h0 hx hsrc hc h1 h2]
        cases a with
        | none =>
          have hn0:=h4 rfl
          subst hn0
          have:cs=[]:=by simp at h3;exact h3
          subst this
          simp only[appTo,Dm (show m≠0 by omega),cond_false,B8,AG,hz,cond_true,List.nil_append,fY]
        | some io =>
          obtain⟨i,o⟩:=io
          obtain⟨k1,k2⟩:=h5 i o rfl
          simp only[appTo,FZ,L5 (show n<n+m by omega),cond_false,k2,Option.bind_some,B8,AG,hz,cond_true]
      · refine .inr ⟨s.next,none,rfl,⟨by rw[fg,h3,ha,fu],.inr ⟨rfl,fa _,gC _,fun q hq=>(by cases hq),_,by rw[AN,if_pos rfl];rfl,⟨rfl,?_⟩,rfl,rfl,rfl,rfl,rfl⟩⟩,rfl⟩
        intro k u hk
        have hlt:k<(cs++add).length:=by
          rcases fS k (cs++add).length with h' | h'
          · exact h'
          · rw[ff h']at hk;cases hk
        show(AH.fill .leaf 0 (cs++add)).get k=some u
        rw[AH.get_fill,if_pos ⟨fa _,by omega⟩]
        simpa using hk
    · obtain⟨a,cap,v',s',e1,e2,i',p',g1,g2,g3,g4,g5,g6,_⟩:=h6.appTo (fR _) (fa _) hz h0 ha hm
      injection e1 with e1 e3 e4
      subst e1;subst e4
      have hv':v'=.slice (some (i',0)) (n+m) none:=by
        rcases g1.ex with⟨_,e⟩ | ⟨e,_⟩
        · omega
        · exact e
      refine⟨v',s',i'::p'.toList,?_,.inr ⟨i',p',hv',g1,rfl⟩,g2.1,by omega,?_,?_,?_⟩
      · rw[DC ht hs hb h0 hx hsrc hc h1 h2]
        exact e2
      · intro j hj hO
        subst h7
        refine g2.2 j hj (fun e=>hO (by simp[e])) (fun e=>hO (by simp[e]))
      · intro j hj
        subst h7
        rcases gg.1 hj with rfl | hj
        · right;omega
        · rcases g5 with rfl | rfl
          · cases hj
          · simp at hj;left;simp[hj]
      · intro j hj
        rw[hv']at hj
        simp[C6]at hj
        right;omega
theorem M3{P:Program}{e:TypeId}{s:AD}{i:Nat}{cs:List AV}{n:Nat}{cap:Option Nat}{sz:Nat}(ty:TypeId)(z:Nat)(hg:s.heap.get i=some (Fq ty z cs))(hl:cs.length=n * sz):B1 P s e sz (.slice (some (i,0)) n cap)=some (n,cs):=by
 obtain⟨r,h1,h2,_⟩:=Ni ty z cs
 rw[h1]at hg
 have:=Fo hg h2 0 cs (by omega) (fun j u hj=>by simpa using hj)
 rw[hl]at this
 simp[B1,TT this]
section
variable{P:Program}{s:AD}{os:List Af}{b k i o off n t e sz:Nat}{sp:Bool}{cs vs:List AV}
theorem Xg(cs:List AV):(AV.agg cs).cells=cs:=rfl
theorem Xm(a:Option (Nat×Nat))(n:Nat)(c:Option Nat):(AV.slice a n c).cells=[.slice a n c]:=rfl
theorem Xn(f:FuncId)(a c:List AV):(AV.func f a c).cells=[.func f a c]:=rfl
theorem ZD(a b:Nat):Nat.beq a b=decide (a=b):=by
 rw[Bool.eq_iff_iff,decide_eq_true_eq,gR]
theorem We(h:ED P t=some false):AE P s t (.ptr (some (i,o)))=LK (s.heap.get i) o:=by
 unfold AE
 rw[h];rfl
theorem Wf(h:ED P t=some true):AE P s t (.ptr (some (i,o)))=(A3 P t).bind fun n=>(J4 (s.heap.get i) o n).bind fun l=>some (.agg l):=by
 unfold AE
 rw[h];rfl
theorem Wg(v:AV):Aa P s t (.ptr (some (i,o))) v=(A3 P t).bind fun n=>AG (decide (v.cells.length=n)) (CD s i o v.cells):=by
 unfold Aa
 simp only[ZD]
theorem Wz(e:TypeId)(v:AV):Cr e v=some (R e 0 false v.cells,.ptr):=rfl
theorem Xa(e:TypeId):As P e=(DU P e).bind fun z=>some (R e 0 false z.cells,.ptr):=rfl
theorem Xb(i:Nat):Made.ptr.val i=.ptr (some (i,0)):=rfl
theorem Xd(i n:Nat):(Made.slice n).val i=.slice (some (i,0)) n (some n):=rfl
end
abbrev AU(n:Nat):AV:=.int .u64 (n:Int)
abbrev BO(n:Nat):AV:=.int .u32 (n:Int)
theorem Ko{n:Nat}(h:n<18446744073709551616):CL .u64 (n:Int)=(n:Int):=Kn (by simp only[BZ,fT];omega)
theorem Ea(n:Int):IntKind.wrap .u64 n=n % 18446744073709551616:=by
 simp[IntKind.wrap,IntKind.signed,IntKind.bits]
theorem LJ(n:Int):IntKind.wrap .u32 n=n % 4294967296:=by
 simp[IntKind.wrap,IntKind.signed,IntKind.bits]
theorem Te(n:Int):CL .u64 n=n % 18446744073709551616:=by
 unfold CL
 cases h:BZ .u64 n with
 | true =>
  cases n with
  | ofNat m =>
   simp only[BZ,fT]at h
   simp only[cond_true]
   rw[show Int.ofNat m=(m:Int)from rfl]
   omega
  | negSucc m=>cases h
 | false=>exact Ea n
theorem Td(n:Int):CL .u32 n=n % 4294967296:=by
 unfold CL
 cases h:BZ .u32 n with
 | true =>
  cases n with
  | ofNat m =>
   simp only[BZ,fT]at h
   simp only[cond_true]
   rw[show Int.ofNat m=(m:Int)from rfl]
   omega
  | negSucc m=>cases h
 | false=>exact LJ n
section
variable(P:Program)(t:TypeId){a b:Nat}
theorem F4(h:a+b<18446744073709551616):AM P .add t (AU a) (AU b)=some (AU (a+b)):=by
 show some (AV.int .u64 (CL .u64 ((a:Int)+(b:Int))))=_
 rw[← Int.natCast_add,Ko h]
theorem Oc(h:a * b<18446744073709551616):AM P .mul t (AU a) (AU b)=some (AU (a * b)):=by
 show some (AV.int .u64 (CL .u64 ((a:Int) * (b:Int))))=_
 rw[← Int.natCast_mul,Ko h]
theorem Ln(hb:b≤18446744073709551616):AM P .sub t (AU a) (AU b)=some (AU ((a+18446744073709551616 - b) % 18446744073709551616)):=by
 show some (AV.int .u64 (CL .u64 ((a:Int) - (b:Int))))=_
 rw[Te]
 congr 2
 omega
theorem eg(k:IntKind):AM P .lss t (.int k (a:Int)) (.int k (b:Int))=some (.bool (decide (a<b))):=by
 have:∀k,Bn k k=true:=fun k=>by cases k<;>rfl
 show AG (Bn k k) (some (AV.bool (Ku (a:Int) (b:Int))))=_
 rw[this,CU]
 simp[AG]
theorem Ll(k:IntKind):AM P .gtr t (.int k (a:Int)) (.int k (b:Int))=some (.bool (decide (b<a))):=by
 have:∀k,Bn k k=true:=fun k=>by cases k<;>rfl
 show AG (Bn k k) (some (AV.bool (Ku (b:Int) (a:Int))))=_
 rw[this,CU]
 simp[AG]
theorem bu(k:IntKind):AM P .eql t (.int k (a:Int)) (.int k (b:Int))=some (.bool (decide (a=b))):=by
 have:∀k,Bn k k=true:=fun k=>by cases k<;>rfl
 show AG (Bn k k) (some (AV.bool (MT (a:Int) (b:Int))))=_
 rw[this,EN]
 simp only[AG,cond_true]
 congr 2
 by_cases h:a=b
 ·subst h;simp
 ·have:(a:Int)≠b:=by omega
  simp[h,this]
theorem Yv(ha:a<18446744073709551616)(hb:b≠0):AM P .quo t (AU a) (AU b)=some (AU (a / b)):=by
 show(C4 P (Op.intDiv .quo .u64 (a:Int) (b:Int))).bind ofValue=_
 have hb':¬ ((b:Int)=0):=by omega
 unfold Op.intDiv
 rw[if_neg hb']
 show some (AV.int .u64 (IntKind.wrap .u64 ((a:Int).tdiv (b:Int))))=_
 rw[Ea,show(a:Int).tdiv (b:Int)=((a / b:Nat):Int)from rfl]
 congr 2
 have:a / b≤a:=gz a b
 generalize a / b=q at this
 omega
theorem Yw(hb:b≠0):AM P .rem t (AU a) (AU b)=some (AU (a % b)):=by
 show(C4 P (Op.intDiv .rem .u64 (a:Int) (b:Int))).bind ofValue=_
 have hb':¬ ((b:Int)=0):=by omega
 unfold Op.intDiv
 rw[if_neg hb']
 show some (AV.int .u64 ((a:Int).tmod (b:Int)))=_
 rfl
theorem Hm{k:IntKind}{n:Nat}(hn:n≤64):AM P .shr t (AU a) (.int k (n:Int))=some (AU (a / 2 ^ n)):=by
 show(C4 P (Op.shift .shr .u64 (a:Int) k (n:Int))).bind ofValue=_
 unfold Op.shift
 rw[if_neg (by omega)]
 show some (AV.int .u64 ((a:Int).fdiv (2 ^ min (n:Int).toNat 64)))=_
 rw[show min (n:Int).toNat 64=n by omega]
 congr 2
 rw[show((2:Int) ^ n)=((2 ^ n:Nat):Int) by push_cast;rfl]
 exact(Int.ofNat_fdiv a (2 ^ n)).symm
theorem Lm{k:IntKind}{n:Nat}(hn:n≤64)(h:a * 2 ^ n<18446744073709551616):AM P .shl t (AU a) (.int k (n:Int))=some (AU (a * 2 ^ n)):=by
 show(C4 P (Op.shift .shl .u64 (a:Int) k (n:Int))).bind ofValue=_
 unfold Op.shift
 rw[if_neg (by omega)]
 show some (AV.int .u64 (IntKind.wrap .u64 ((a:Int) * 2 ^ min (n:Int).toNat 64)))=_
 rw[show min (n:Int).toNat 64=n by omega,Ea]
 congr 2
 rw[show(a:Int) * 2 ^ n=((a * 2 ^ n:Nat):Int) by push_cast;rfl]
 omega
theorem Io(h:a<18446744073709551616):AM P .and t (AU a) (.int .u64 4294967295)=some (AU (a % 4294967296)):=by
 show(C4 P (Op.intBits .and .u64 (a:Int) 4294967295)).bind ofValue=_
 show some (AV.int .u64 (IntKind.wrap .u64 ((BitVec.ofInt 64 (a:Int) &&& BitVec.ofInt 64 4294967295).toNat:Int)))=_
 rw[Ea]
 congr 2
 have:(BitVec.ofInt 64 (a:Int) &&& BitVec.ofInt 64 4294967295).toNat=a % 4294967296:=by
  rw[BitVec.ofInt_natCast,show BitVec.ofInt 64 4294967295=BitVec.ofNat 64 4294967295 from(by decide),BitVec.toNat_and,BitVec.toNat_ofNat,BitVec.toNat_ofNat]
  rw[fy (show a<2 ^ 64 by omega),show 4294967295 % 2 ^ 64=2 ^ 32 - 1 by decide,Nat.and_two_pow_sub_one_eq_mod]
 rw[this]
 omega
theorem bE(h:a * 4294967296+b<18446744073709551616)(hb:b<4294967296):AM P .or t (AU (a * 4294967296)) (AU b)=some (AU (a * 4294967296+b)):=by
 show(C4 P (Op.intBits .or .u64 ((a * 4294967296:Nat):Int) (b:Int))).bind ofValue=_
 show some (AV.int .u64 (IntKind.wrap .u64 ((BitVec.ofInt 64 ((a * 4294967296:Nat):Int) ||| BitVec.ofInt 64 (b:Int)).toNat:Int)))=_
 rw[Ea]
 congr 2
 have:(BitVec.ofInt 64 ((a * 4294967296:Nat):Int) ||| BitVec.ofInt 64 (b:Int)).toNat=a * 4294967296+b:=by
  rw[BitVec.ofInt_natCast,BitVec.ofInt_natCast,BitVec.toNat_or,BitVec.toNat_ofNat,BitVec.toNat_ofNat]
  have e64:(2:Nat) ^ 64=18446744073709551616:=by decide
  have e32:(2:Nat) ^ 32=4294967296:=by decide
  have h1:a * 4294967296<18446744073709551616:=gL (Nat.le_add_right _ _) h
  have h2:b<18446744073709551616:=Nat.lt_trans hb (by decide)
  rw[e64,fy h1,fy h2]
  have h3:b<2 ^ 32:=by rw[e32];exact hb
  have:=Nat.two_pow_add_eq_or_of_lt h3 a
  rw[e32,fe]at this
  exact this.symm
 rw[this]
 have h5:((a * 4294967296+b:Nat):Int)<18446744073709551616:=Int.ofNat_lt.2 h
 exact Int.emod_eq_of_lt (Int.natCast_nonneg _) h5
end
def Hp(e:TypeId)(sz:Nat)(s:AD)(v:AV)(n:Nat)(cs:List AV)(O:List Nat):Prop:=
 (v=.slice none 0 (some 0)∧n=0∧cs=[]∧O=[])∨∃i p,v=.slice (some (i,0)) n none∧FX e 0 s.next s v n sz cs i p∧O=i::p.toList
section
variable{e sz n:Nat}{s s':AD}{v:AV}{cs:List AV}{O:List Nat}
theorem Hp.nil(e sz:Nat)(s:AD):Hp e sz s (.slice none 0 (some 0)) 0 [] []:=.inl ⟨rfl,rfl,rfl,rfl⟩
theorem Hp.lt  (h : Hp  e sz s v n cs O) : ∀ j ∈ O, j < s.next := by
  rcases h with⟨_,_,_,rfl⟩ | ⟨i,p,hv,h,rfl⟩
  · intro j hj;cases hj
  · rcases h.ex with ⟨h1, _⟩ | ⟨_, _, h2, h3, _⟩
    · rw[hv]at h1;cases h1
    · intro j hj
      rcases gg.1 hj with rfl | hj
      · exact h2
      · cases p with
        | none=>cases hj
        | some q=>simp at hj;subst hj;exact(h3 _ rfl).2.1
theorem Hp.frame(h:Hp e sz s v n cs O)(hn:s.next≤s'.next)(hf:∀j∈O,s'.heap.get j=s.heap.get j):Hp e sz s' v n cs O:=by
 rcases h with h | ⟨i,p,hv,h,rfl⟩
 ·exact .inl h
 ·exact .inr ⟨i,p,hv,(h.mono hn).frame fun _ _=>hf i (by simp),rfl⟩
theorem Hp.slice(h:Hp e sz s v n cs O):∃a cap,v=.slice a n cap∧Ah s.next s a cs:=by
 rcases h with⟨rfl,rfl,rfl,_⟩ | ⟨i,p,_,h,_⟩
 ·exact⟨none,some 0,rfl,Ah.nil⟩
 ·exact h.cells
theorem Hp.append  {P : Program} {st xt by_ : Nat} (ht : P.underlying st = some (.slice e)) (hs : A3    P e = some sz) (hb : Cx     P e = some by_) (h0 : 0 < sz) (hx : Bs           P xt = true) (hz : Cm     P e sz = true) (h : Hp  e sz s v n cs O)
    {ax:Option (Nat×Nat)} {m:Nat} {cx:Option Nat} {add:List AV} (hm:0<m) (hsrc:B1 P s e sz (.slice ax m cx)=some (m,add)) (ha:add.length=m * sz) (hc:Ar add=true) (h1:(n+m) * by_≤1099511627776) (h2:n+m≤1099511627776):
    ∃v' s' O',A8 P s [st,xt] [v,.slice ax m cx]=some (v',s')∧Hp e sz s' v' (n+m) (cs++add) O'∧s'.next=s.next+1∧(∀j,j<s.next→j ∉ O→s'.heap.get j=s.heap.get j)∧(∀j∈O',j∈O∨s.next≤j)∧C6 v'=some s.next:=by
  have key:∀ (i:Nat) (p:Option Nat),FX e 0 s.next s v n sz cs i p→(∀j,j<s.next→j ∉ O→j≠i∧p≠some j)→(∀j,j=i∨p=some j→j∈O∨s.next≤j) →
      ∃v' s' O',A8 P s [st,xt] [v,.slice ax m cx]=some (v',s')∧Hp e sz s' v' (n+m) (cs++add) O'∧s'.next=s.next+1∧(∀j,j<s.next→j ∉ O→s'.heap.get j=s.heap.get j)∧(∀j∈O',j∈O∨s.next≤j)∧C6 v'=some s.next:=by
    intro i p hg hi hO
    obtain⟨a,cap,v',s',rfl,happ,i',p',hg',hap,_,rfl,hp',hn',_⟩:=hg.appTo (P:=P) (fR _) (fa _) hz h0 ha hm
    have hv':v'=.slice (some (s.next,0)) (n+m) none:=by
      rcases hg'.ex with⟨_,h0'⟩ | ⟨h1',_⟩
      · omega
      · exact h1'
    refine⟨v',s',s.next::p'.toList,by rw[DC ht hs hb h0 hx hsrc hc h1 h2];exact happ,.inr ⟨s.next,p',hv',hg',rfl⟩,hn',fun j hj hjO=>?_,fun j hj=>?_,by rw[hv'];rfl⟩
    · exact hap.2 j hj (hi j hj hjO).1 (hi j hj hjO).2
    · rcases gg.1            hj with rfl | hj
      · exact .inr (fR _)
      · rcases hp' with rfl | rfl
        · cases hj
        · simp at hj;subst hj;exact hO _ (.inl rfl)
  rcases h with⟨rfl,rfl,rfl,rfl⟩ | ⟨i,p,rfl,hg,rfl⟩
  · exact key s.next none (FX.zero _ _ _ _ _ _ _) (fun j hj _=>⟨by omega,by simp⟩) (fun j hj=>by rcases hj with rfl | hj;exact .inr (fR _);cases hj)
  · refine key i p hg (fun j hj hjO => ⟨fun e => hjO (by simp [e]), fun e => hjO (by simp [e])⟩) (fun j hj => ?_)
    rcases hj with rfl | rfl<;>simp
end
section
variable{P:Program}{s:AD}{i e sz o t:Nat}{sp:Bool}{cs:List AV}{v:AV}
theorem Ce(hs:A3 P t=some 1)(hg:s.heap.get i=some (R e sz sp cs))(ho:o<cs.length)(hv:v.isCell=true):
  Aa P s t (.ptr (some (i,o))) v=some (setObj s i (R e sz sp (cs.set o v))):=by
 have hc:v.cells=[v]:=by cases v<;>first | rfl | cases hv
 have hl:Ar [v]=true:=by simp[Ar,hv]
 rw[Wg,hs,hc]
 have:=OV (off:=o) (vs:=[v]) hg (by show o+1≤cs.length;omega) hl
 show AG (decide (1=1)) (CD s i o [v])=_
 rw[this]
 rfl
theorem Ad(ht:ED P t=some false)(hg:s.heap.get i=some (R e sz sp cs))(hk:cs[o]? = some v):AE P s t (.ptr (some (i,o)))=some v:=by
 rw[We ht,hg,Wn,hk]
theorem MQ(hg:s.heap.get i=some (R e sz sp cs)){b:Nat}(hi:i<b):Ah b s (some (i,0)) cs:=fun k u hu=>⟨i,0,rfl,hi,by rw[aM,hg,Wn,fY];exact hu⟩
end
def us(l:List Nat):List AV:=l.map BO
theorem CK(l:List Nat):(us l).length=l.length:=by simp[us]
theorem C9{l:List Nat}{k x:Nat}(h:l[k]? = some x):(us l)[k]? = some (BO x):=by simp[us,h]
theorem Lo(a b:List Nat):us (a++b)=us a++us b:=by simp[us]
theorem IQ(l:List Nat)(k x:Nat):(us l).set k (BO x)=us (l.set k x):=by simp[us,List.map_set]
theorem SX(l:List Nat)(k:Nat):us (l.take k)=(us l).take k:=by simp[us,List.map_take]
theorem aN{o:Option Af}:∀ (l:List AV)(off:Nat),(∀j u,l[j]? = some u→LK o (off+j)=some u)→l≠[]→J4 o off l.length=some l:=by
 intro l off h h0
 obtain⟨r,hr⟩:∃r,YV o=some r:=by
  cases l with
  | nil=>exact absurd rfl h0
  | cons a l =>
   have:=h 0 a rfl
   unfold LK at this
   cases hr:YV o with
   | none=>rw[hr]at this;cases this
   | some r=>exact⟨r,rfl⟩
 have hg:∀j u,l[j]? = some u→off+j<r.n∧r.c.get (off+j)=some u:=fun j u hj=>by
  have:=h j u hj
  unfold LK at this
  rw[hr,Option.bind_some]at this
  obtain⟨g1,g2⟩:=AA this
  exact⟨by simpa[fb]using g1,g2⟩
 have ht:∀ (m:List AV) (k:Nat),(∀j u,m[j]? = some u→r.c.get (k+j)=some u)→r.c.take k m.length=some m:=by
  intro m
  induction m with
  | nil=>intro k _;simp[AH.take]
  | cons a m ih =>
   intro k hk
   have h1:=hk 0 a rfl
   rw[fi]at h1
   simp only[gH,AH.take,h1,ih (k+1) fun j u hj=>by rw[show k+1+j=k+(j+1)from by omega];exact hk (j+1) u hj]
 unfold J4
 rw[hr,Option.bind_some,ht l off fun j u hj=>(hg j u hj).2]
 have hl:off+l.length≤r.n:=by
  cases hz:l.getLast? with
  | none=>exact absurd (List.getLast?_eq_none_iff.1 hz) h0
  | some u =>
   have hlen:0<l.length:=List.length_pos_iff.2 h0
   have:=(hg (l.length - 1) l[l.length - 1] (fX (by omega))).1
   omega
 have:Nat.ble (off+l.length) r.n=true:=by rw[fT];exact hl
 rw[this];rfl
def B5(s:AD)(i:Nat)(cs:List AV)(p:Option Nat):Prop:=∃r,s.heap.get i=some (.row r)∧JI r cs∧CQ r.mode=true∧r.sz=1∧(r.par=none∨r.par=p)
theorem B5.keep{s s':AD}{i:Nat}{cs:List AV}{p:Option Nat}(h:B5 s i cs p)(k:s'.heap.get i=s.heap.get i):B5 s' i cs p:=by
 obtain⟨r,h1,h2⟩:=h
 exact⟨r,k.trans h1,h2⟩
theorem B5.of_R{s:AD}{i e:Nat}{sp:Bool}{cs:List AV}(h:s.heap.get i=some (R e 1 sp cs)):B5 s i cs none:=
 ⟨{ elem:=e,sz:=1,n:=cs.length,c:=SM cs,spare:=sp,mode:=.own,par:=none,bytes:=true },h,⟨rfl,fun k u hk=>by
  show(SM cs).get k=_
  rw[Mo];exact hk⟩,rfl,rfl,.inl rfl⟩
theorem Fp{P:Program}{s:AD}{i o t:Nat}{cs:List AV}{p:Option Nat}{v:AV}(ht:ED P t=some false)(h:B5 s i cs p)(hk:cs[o]? = some v):AE P s t (.ptr (some (i,o)))=some v:=by
 obtain⟨r,h1,h2,_⟩:=h
 have ho:o<cs.length:=by
  rcases fS o cs.length with h' | h'
  ·exact h'
  ·rw[ff h']at hk;cases hk
 exact B9 ht (GC h1 (by rw[h2.1];exact ho) (h2.2 o v hk))
theorem Hx{s:AD}{i:Nat}{cs:List AV}{p:Option Nat}(h:B5 s i cs p){b:Nat}(hi:i<b):Ah b s (some (i,0)) cs:=fun k u hu=>by
 obtain⟨r,h1,h2,_⟩:=h
 have ho:k<cs.length:=by
  rcases fS k cs.length with h' | h'
  ·exact h'
  ·rw[ff h']at hu;cases hu
 exact⟨i,0,rfl,hi,GC h1 (by rw[h2.1];omega) (by rw[fY];exact h2.2 k u hu)⟩
theorem DK        {P : Program} {s : AD}  {i o t : Nat} {cs : List AV} {p : Option Nat} {v : AV} (hs : A3    P t = some 1) (h : B5   s i cs p) (ho : o < cs.length) (hv : v.isCell = true) :
    ∃s',Aa P s t (.ptr (some (i,o))) v=some s'∧B5 s' i (cs.set o v) p∧s'.next=s.next∧∀j,j≠i→some j≠p→s'.heap.get j=s.heap.get j:=by
  obtain⟨r,h1,h2,h3,h4,h5⟩:=h
  have hc:v.cells=[v]:=by cases v<;>first | rfl | cases hv
  have hrow:rowAt s i=some r:=by unfold rowAt;rw[h1]
  have hb:Nat.ble (o+1) r.n=true:=Cw (by rw[h2.1];omega)
  have hal:Ar [v]=true:=by simp[Ar,hv]
  have est:Aa P s t (.ptr (some (i,o))) v=some (setObj (BC s i r) i (.row { r with c:=r.c.fill o [v],par:=none })):=by
    rw[Wg,hs,hc]
    show AG (decide (1=1)) (CD s i o [v])=_
    show(rowAt s i).bind _=_
    rw[hrow]
    show AG (CQ r.mode && Nat.ble (o+1) r.n && Ar [v]) _=_
    rw[h3,hb,hal]
    rfl
  have hun:(BC s i r).next=s.next∧∀j,some j≠p→(BC s i r).heap.get j=s.heap.get j:=by
    unfold BC
    rcases h5 with h5 | h5
    · rw[h5];exact⟨rfl,fun j _=>rfl⟩
    · rw[h5]
      cases p with
      | none=>exact⟨rfl,fun j _=>rfl⟩
      | some q =>
        simp only
        cases hbq:Nat.beq q i with
        | true=>exact⟨rfl,fun j _=>rfl⟩
        | false =>
          refine⟨rfl,fun j hj=>?_⟩
          show(Bu s q).heap.get j=_
          rw[HK,if_neg]
          intro e
          exact hj (by rw[e])
  refine⟨_,est,⟨{ r with c:=r.c.fill o [v],par:=none },Wv _ _ _,⟨by show r.n=_;rw[h2.1,ge],fun k u hu=>?_⟩,h3,h4,.inl rfl⟩,hun.1,fun j hj hjp=>(Ww _ hj).trans (hun.2 j hjp)⟩
  show(r.c.fill o [v]).get k=some u
  rw[AH.get_fill]
  by_cases hk:k=o
  · subst hk
    rw[gy ho]at hu
    rw[if_pos ⟨fR _,by simp⟩,Nat.sub_self]
    exact hu
  · rw [gV                   (Ne.symm hk)] at hu
    rw[if_neg (by simp;omega)]
    exact h2.2 k u hu
structure CW(s s':AD)(i:Nat)(p:Option Nat):Prop where
 next:s'.next=s.next
 get:∀j,j≠i→some j≠p→s'.heap.get j=s.heap.get j
theorem CW.refl(s:AD)(i:Nat)(p:Option Nat):CW s s i p:=⟨rfl,fun _ _ _=>rfl⟩
theorem CW.step{s s' s2:AD}{i:Nat}{p:Option Nat}(h:CW s s' i p)(h1:s2.next=s'.next)(h2:∀j,j≠i→some j≠p→s2.heap.get j=s'.heap.get j):CW s s2 i p:=⟨h1.trans h.next,fun j hj hp=>(h2 j hj hp).trans (h.get j hj hp)⟩
end
end Go.Proofs.YtdmgdlbodeemeaaGreatDoor.Am
set_option linter.unusedVariables false
set_option linter.unusedSimpArgs false
set_option maxRecDepth 100000
namespace Go.Proofs.YtdmgdlbodeemeaaGreatDoor.Am
open Go Go.Proofs
noncomputable section
theorem Oj:ED Tryz.prog 4=some false:=by kernel_rfl
theorem dC:A3 Tryz.prog 30=some 1:=by kernel_rfl
theorem D1:ED Tryz.prog 30=some false:=by kernel_rfl
theorem Bj:A3 Tryz.prog 192=some 1:=by kernel_rfl
theorem NP:Cx Tryz.prog 192=some 4:=by kernel_rfl
theorem EF:ED Tryz.prog 192=some false:=by kernel_rfl
theorem em:DU Tryz.prog 192=some (.int .u32 (0)):=by kernel_rfl
theorem OY:A3 Tryz.prog 173=some 1:=by kernel_rfl
theorem NG:ED Tryz.prog 173=some false:=by kernel_rfl
def O0:List AB:=[
 ⟨none,.p1 some,[(.const (.slice none 0 (some 0)))],(.set 1),[]⟩]
def O1:List AB:=[
 ⟨none,.r (fun s l=>match l with | [x]=>Bk Tryz.prog s 30 x | _=>none),[.var 0],.push,[]⟩,
 ⟨none,.p1 some,[.loc 0],(.set 2),[]⟩]
def MC:List AB:=[
 ⟨none,.p2 (AM Tryz.prog .gtr 3),[(.var 2),(.const (.int .i64 (0)))],.push,[]⟩,
 ⟨(some ((.loc 0),true)),.p1 some,[.var 0],.push,[]⟩,
 ⟨(some ((.loc 1),true)),.p1 some,[.var 2],.push,[]⟩,
 ⟨(some ((.loc 2),true)),.p2 (AM Tryz.prog .sub 3),[(.loc 0),(.const (.int .i64 (1)))],.push,[]⟩,
 ⟨(some ((.loc 3),true)),.p2 (AP Tryz.prog 30),[.loc 2,.loc 0],.push,[]⟩,
 ⟨(some ((.loc 4),true)),.r1 (fun s a=>AE Tryz.prog s 192 a),[.loc 0],.push,[]⟩,
 ⟨(some ((.loc 5),true)),.p2 (AM Tryz.prog .eql 192),[(.loc 0),(.const (.int .u32 (0)))],.push,[]⟩,
 ⟨none,.p Rt,[(.loc 6),(.loc 0),(.const (.bool false))],(.set 3),[]⟩]
def UT:List AB:=[
 ⟨none,.p1 some,[.var 2],.push,[]⟩,
 ⟨none,.p2 (AM Tryz.prog .sub 3),[(.loc 0),(.const (.int .i64 (1)))],.push,[]⟩,
 ⟨none,.p1 some,[.loc 0],(.set 2),[]⟩]
def Hs:Ab:=(.seq (.seq (.ops MC) (.cond (.var 3)
 .skip
 (.exit 0))) (.block 1 (.ops UT)))
def O3:List AB:=[
 ⟨none,.r (Bg Tryz.prog 30 false true false),[.var 0,.var 2],.push,[]⟩,
 ⟨none,.call 232,[.loc 0],.push,[]⟩,
 ⟨none,.p1 some,[.loc 0],(.set 1),[]⟩]
def cH:Az:=⟨1,4,(.seq (.ops O0) (.seq (.ops O1) (.seq (.block 0 (.loop Hs)) (.seq (.ops O3) .ret)))),[((.var 1),none)]⟩
def MJ:List AB:=[
 ⟨none,.p1 some,[(.const (.slice none 0 (some 0)))],(.set 1),[]⟩]
def MK:List AB:=[
 ⟨none,.p2 (AM Tryz.prog .eql 30),[(.var 0),(.const (.slice none 0 (some 0)))],(.set 2),[]⟩]
def PC:List AB:=[
 ⟨none,.p1 some,[(.const (.slice none 0 (some 0)))],(.set 1),[]⟩]
def VJ:List AB:=[
 ⟨none,.mk (fun l=>(Ak Tryz.prog 30 0 (zipIdx [] l)).bind fun r=>some (r,.slice 0)),[],.push,[]⟩,
 ⟨none,.e (fun s l=>A8 Tryz.prog s [30,30] l),[.loc 0,.var 0],.push,[]⟩,
 ⟨none,.p1 some,[.loc 0],(.set 1),[]⟩]
def ZM:Az:=⟨1,3,(.seq (.ops MJ) (.seq (.seq (.ops MK) (.cond (.var 2)
 (.seq (.ops PC) .ret)
 .skip)) (.seq (.ops VJ) .ret))),[((.var 1),none)]⟩
def Tu:List AB:=[
 ⟨none,.p1 some,[(.const (.slice none 0 (some 0)))],(.set 1),[]⟩]
def Tv:List AB:=[
 ⟨none,.p2 (AM Tryz.prog .and 173),[(.var 0),(.const (.int .u64 (4294967295)))],.push,[]⟩,
 ⟨none,.r1 (fun s x=>Ae Tryz.prog s 173 192 x),[.loc 0],.push,[]⟩,
 ⟨none,.p2 (AM Tryz.prog .shr 173),[(.var 0),(.const (.int .u64 (32)))],.push,[]⟩,
 ⟨none,.r1 (fun s x=>Ae Tryz.prog s 173 192 x),[.loc 0],.push,[]⟩,
 ⟨none,.mk (fun l=>(Ak Tryz.prog 30 2 (zipIdx [0,1] l)).bind fun r=>some (r,.slice 2)),[.loc 2,.loc 0],.push,[]⟩,
 ⟨none,.call 177,[.loc 0],.push,[]⟩,
 ⟨none,.p1 some,[.loc 0],(.set 1),[]⟩]
def dU:Az:=⟨1,2,(.seq (.ops Tu) (.seq (.ops Tv) .ret)),[((.var 1),none)]⟩
def UU:List AB:=[
 ⟨none,.p1 some,[(.const (.int .i64 (0)))],(.set 2),[]⟩]
def UV:List AB:=[
 ⟨none,.p1 some,[.var 0],.push,[]⟩,
 ⟨none,.call 177,[.loc 0],.push,[]⟩,
 ⟨none,.p1 some,[.var 1],.push,[]⟩,
 ⟨none,.call 177,[.loc 0],.push,[]⟩,
 ⟨none,.p1 some,[.loc 2],(.set 0),[]⟩,
 ⟨none,.p1 some,[.loc 0],(.set 1),[]⟩]
def ME:List AB:=[
 ⟨none,.r (fun s l=>match l with | [x]=>Bk Tryz.prog s 30 x | _=>none),[.var 0],.push,[]⟩,
 ⟨none,.r (fun s l=>match l with | [x]=>Bk Tryz.prog s 30 x | _=>none),[.var 1],.push,[]⟩,
 ⟨none,.p2 (AM Tryz.prog .lss 3),[.loc 1,.loc 0],.push,[]⟩,
 ⟨none,.p1 some,[.loc 0],(.set 4),[]⟩]
def UW:List AB:=[
 ⟨none,.p1 some,[(.const (.int .i64 (-1)))],(.set 2),[]⟩]
def O4:List AB:=[
 ⟨none,.r (fun s l=>match l with | [x]=>Bk Tryz.prog s 30 x | _=>none),[.var 0],.push,[]⟩,
 ⟨none,.r (fun s l=>match l with | [x]=>Bk Tryz.prog s 30 x | _=>none),[.var 1],.push,[]⟩,
 ⟨none,.p2 (AM Tryz.prog .gtr 3),[.loc 1,.loc 0],.push,[]⟩,
 ⟨none,.p1 some,[.loc 0],(.set 5),[]⟩]
def UX:List AB:=[
 ⟨none,.p1 some,[(.const (.int .i64 (1)))],(.set 2),[]⟩]
def UY:List AB:=[
 ⟨none,.r (fun s l=>match l with | [x]=>Bk Tryz.prog s 30 x | _=>none),[.var 0],.push,[]⟩,
 ⟨none,.p2 (AM Tryz.prog .sub 3),[(.loc 0),(.const (.int .i64 (1)))],.push,[]⟩,
 ⟨none,.p1 some,[.loc 0],(.set 3),[]⟩]
def JV:List AB:=[
 ⟨none,.p2 (AM Tryz.prog .geq 3),[(.var 3),(.const (.int .i64 (0)))],(.set 6),[]⟩]
def MF:List AB:=[
 ⟨none,.p2 (AP Tryz.prog 30),[.var 0,.var 3],.push,[]⟩,
 ⟨none,.r1 (fun s a=>AE Tryz.prog s 192 a),[.loc 0],.push,[]⟩,
 ⟨none,.p2 (AP Tryz.prog 30),[.var 1,.var 3],.push,[]⟩,
 ⟨none,.r1 (fun s a=>AE Tryz.prog s 192 a),[.loc 0],.push,[]⟩,
 ⟨none,.p2 (AM Tryz.prog .lss 192),[.loc 2,.loc 0],.push,[]⟩,
 ⟨none,.p1 some,[.loc 0],(.set 7),[]⟩]
def UZ:List AB:=[
 ⟨none,.p1 some,[(.const (.int .i64 (-1)))],(.set 2),[]⟩]
def MD:List AB:=[
 ⟨none,.p2 (AP Tryz.prog 30),[.var 0,.var 3],.push,[]⟩,
 ⟨none,.r1 (fun s a=>AE Tryz.prog s 192 a),[.loc 0],.push,[]⟩,
 ⟨none,.p2 (AP Tryz.prog 30),[.var 1,.var 3],.push,[]⟩,
 ⟨none,.r1 (fun s a=>AE Tryz.prog s 192 a),[.loc 0],.push,[]⟩,
 ⟨none,.p2 (AM Tryz.prog .gtr 192),[.loc 2,.loc 0],.push,[]⟩,
 ⟨none,.p1 some,[.loc 0],(.set 8),[]⟩]
def RH:List AB:=[
 ⟨none,.p1 some,[(.const (.int .i64 (1)))],(.set 2),[]⟩]
def RI:List AB:=[
 ⟨none,.p1 some,[.var 3],.push,[]⟩,
 ⟨none,.p2 (AM Tryz.prog .sub 3),[(.loc 0),(.const (.int .i64 (1)))],.push,[]⟩,
 ⟨none,.p1 some,[.loc 0],(.set 3),[]⟩]
def E5:Ab:=(.seq (.seq (.ops JV) (.cond (.var 6)
 .skip
 (.exit 1))) (.seq (.block 2 (.block 3 (.seq (.ops MF) (.cond (.var 7)
 (.seq (.ops UZ) .ret)
 (.seq (.ops MD) (.cond (.var 8)
 (.seq (.ops RH) .ret)
 .skip)))))) (.ops RI)))
def RJ:List AB:=[
 ⟨none,.p1 some,[(.const (.int .i64 (0)))],(.set 2),[]⟩]
def de:Az:=⟨2,9,(.seq (.ops UU) (.seq (.ops UV) (.seq (.block 0 (.seq (.ops ME) (.cond (.var 4)
 (.seq (.ops UW) .ret)
 (.seq (.ops O4) (.cond (.var 5)
 (.seq (.ops UX) .ret)
 .skip))))) (.seq (.seq (.ops UY) (.block 1 (.loop E5))) (.seq (.ops RJ) .ret))))),[((.var 2),none)]⟩
def VK:List AB:=[
 ⟨none,.p1 some,[(.const (.slice none 0 (some 0)))],(.set 3),[]⟩]
def VL:List AB:=[
 ⟨none,.p1 some,[(.const (.slice none 0 (some 0)))],(.set 4),[]⟩]
def VM:List AB:=[
 ⟨none,.p1 some,[.var 0],(.set 6),[]⟩,
 ⟨none,.r (fun s l=>match l with | [x]=>Bk Tryz.prog s 30 x | _=>none),[.var 6],(.set 7),[]⟩,
 ⟨none,.p1 some,[(.const (.int .i64 (0)))],(.set 8),[]⟩]
def PD:List AB:=[
 ⟨none,.p2 (AM Tryz.prog .lss 3),[.var 8,.var 7],(.set 9),[]⟩]
def VN:List AB:=[
 ⟨none,.p2 (AP Tryz.prog 30),[.var 6,.var 8],.push,[]⟩,
 ⟨none,.r1 (fun s a=>AE Tryz.prog s 192 a),[.loc 0],.push,[]⟩,
 ⟨none,.p1 some,[.loc 0],(.set 5),[]⟩]
def VO:List AB:=[
 ⟨none,.p1 some,[.var 2],.push,[]⟩,
 ⟨none,.r1 (fun s x=>Ae Tryz.prog s 192 173 x),[.var 5],.push,[]⟩,
 ⟨none,.p2 (AM Tryz.prog .mul 173),[.var 1,.loc 0],.push,[]⟩,
 ⟨none,.p2 (AM Tryz.prog .add 173),[.loc 2,.loc 0],.push,[]⟩,
 ⟨none,.p1 some,[.loc 0],(.set 2),[]⟩]
def VP:List AB:=[
 ⟨none,.p1 some,[.var 4],.push,[]⟩,
 ⟨none,.p2 (AM Tryz.prog .and 173),[(.var 2),(.const (.int .u64 (4294967295)))],.push,[]⟩,
 ⟨none,.r1 (fun s x=>Ae Tryz.prog s 173 192 x),[.loc 0],.push,[]⟩,
 ⟨none,.mk (fun l=>(Ak Tryz.prog 30 1 (zipIdx [0] l)).bind fun r=>some (r,.slice 1)),[.loc 0],.push,[]⟩,
 ⟨none,.e (fun s l=>A8 Tryz.prog s [30,30] l),[.loc 3,.loc 0],.push,[]⟩,
 ⟨none,.p1 some,[.loc 0],(.set 4),[]⟩]
def VQ:List AB:=[
 ⟨none,.p1 some,[.var 2],.push,[]⟩,
 ⟨none,.p2 (AM Tryz.prog .shr 173),[(.loc 0),(.const (.int .u64 (32)))],.push,[]⟩,
 ⟨none,.p1 some,[.loc 0],(.set 2),[]⟩]
def VR:List AB:=[
 ⟨none,.p2 (AM Tryz.prog .add 3),[(.var 8),(.const (.int .i64 (1)))],.push,[]⟩,
 ⟨none,.p1 some,[.loc 0],(.set 8),[]⟩]
def Jb:Ab:=(.seq (.ops PD) (.seq (.cond (.var 9)
 .skip
 (.exit 0)) (.seq (.block 1 (.seq (.ops VN) (.seq (.ops VO) (.seq (.ops VP) (.ops VQ))))) (.ops VR))))
def RN:List AB:=[
 ⟨none,.r1 (fun s x=>Ae Tryz.prog s 173 192 x),[.var 2],.push,[]⟩,
 ⟨none,.mk (fun l=>(Ak Tryz.prog 30 1 (zipIdx [0] l)).bind fun r=>some (r,.slice 1)),[.loc 0],.push,[]⟩,
 ⟨none,.e (fun s l=>A8 Tryz.prog s [30,30] l),[.var 4,.loc 0],.push,[]⟩,
 ⟨none,.p1 some,[.loc 0],(.set 3),[]⟩]
def du:Az:=⟨3,10,(.seq (.ops VK) (.seq (.ops VL) (.seq (.seq (.ops VM) (.block 0 (.loop Jb))) (.seq (.ops RN) .ret)))),[((.var 3),none)]⟩
def Ui:List AB:=[
 ⟨none,.p1 some,[(.const (.slice none 0 (some 0)))],(.set 2),[]⟩]
def Uj:List AB:=[
 ⟨none,.p2 (AM Tryz.prog .shl 173),[(.const (.int .u64 (1))),(.var 1)],.push,[]⟩,
 ⟨none,.call 234,[(.var 0),(.loc 0),(.const (.int .u64 (0)))],.push,[]⟩,
 ⟨none,.p1 some,[.loc 0],(.set 2),[]⟩]
def dg:Az:=⟨2,3,(.seq (.ops Ui) (.seq (.ops Uj) .ret)),[((.var 2),none)]⟩
def Ua:List AB:=[
 ⟨none,.p1 some,[(.const (.slice none 0 (some 0)))],(.set 2),[]⟩,
 ⟨none,.p1 some,[(.const (.int .u64 (0)))],(.set 3),[]⟩]
def Ub:List AB:=[
 ⟨none,.r (fun s l=>match l with | [x]=>Bk Tryz.prog s 30 x | _=>none),[.var 0],.push,[]⟩,
 ⟨none,.mk (Xx (Bv Tryz.prog 30)),[.loc 0,.loc 0],.push,[]⟩,
 ⟨none,.p1 some,[.loc 0],(.set 2),[]⟩]
def Uc:List AB:=[
 ⟨none,.r (fun s l=>match l with | [x]=>Bk Tryz.prog s 30 x | _=>none),[.var 0],.push,[]⟩,
 ⟨none,.p2 (AM Tryz.prog .sub 3),[(.loc 0),(.const (.int .i64 (1)))],.push,[]⟩,
 ⟨none,.p1 some,[.loc 0],(.set 4),[]⟩]
def O5:List AB:=[
 ⟨none,.p2 (AM Tryz.prog .geq 3),[(.var 4),(.const (.int .i64 (0)))],(.set 5),[]⟩]
def Ud:List AB:=[
 ⟨none,.p1 some,[.var 3],.push,[]⟩,
 ⟨none,.p2 (AM Tryz.prog .shl 173),[(.loc 0),(.const (.int .u64 (32)))],.push,[]⟩,
 ⟨none,.p2 (AP Tryz.prog 30),[.var 0,.var 4],.push,[]⟩,
 ⟨none,.r1 (fun s a=>AE Tryz.prog s 192 a),[.loc 0],.push,[]⟩,
 ⟨none,.r1 (fun s x=>Ae Tryz.prog s 192 173 x),[.loc 0],.push,[]⟩,
 ⟨none,.p2 (AM Tryz.prog .or 173),[.loc 3,.loc 0],.push,[]⟩,
 ⟨none,.p1 some,[.loc 0],(.set 3),[]⟩]
def Ue:List AB:=[
 ⟨none,.p2 (AM Tryz.prog .quo 173),[.var 3,.var 1],.push,[]⟩,
 ⟨none,.r1 (fun s x=>Ae Tryz.prog s 173 192 x),[.loc 0],.push,[]⟩,
 ⟨none,.p2 (AP Tryz.prog 30),[.var 2,.var 4],.push,[]⟩,
 ⟨none,.e (fun s=>Xx (fun a x=>Xz (Aa Tryz.prog s 192 a x))),[.loc 0,.loc 1],.push,[]⟩]
def Uf:List AB:=[
 ⟨none,.p1 some,[.var 3],.push,[]⟩,
 ⟨none,.p2 (AM Tryz.prog .rem 173),[.loc 0,.var 1],.push,[]⟩,
 ⟨none,.p1 some,[.loc 0],(.set 3),[]⟩]
def Ug:List AB:=[
 ⟨none,.p1 some,[.var 4],.push,[]⟩,
 ⟨none,.p2 (AM Tryz.prog .sub 3),[(.loc 0),(.const (.int .i64 (1)))],.push,[]⟩,
 ⟨none,.p1 some,[.loc 0],(.set 4),[]⟩]
def JW:Ab:=(.seq (.seq (.ops O5) (.cond (.var 5)
 .skip
 (.exit 0))) (.seq (.block 1 (.seq (.ops Ud) (.seq (.ops Ue) (.ops Uf)))) (.ops Ug)))
def Uh:List AB:=[
 ⟨none,.p1 some,[.var 2],.push,[]⟩,
 ⟨none,.call 177,[.loc 0],.push,[]⟩,
 ⟨none,.p1 some,[.var 3],.push,[]⟩,
 ⟨none,.p1 some,[.loc 1],(.set 2),[]⟩,
 ⟨none,.p1 some,[.loc 0],(.set 3),[]⟩]
def df:Az:=⟨2,6,(.seq (.ops Ua) (.seq (.ops Ub) (.seq (.seq (.ops Uc) (.block 0 (.loop JW))) (.seq (.ops Uh) .ret)))),[((.var 2),none),((.var 3),none)]⟩
def Uk:List AB:=[
 ⟨none,.p1 some,[(.const (.int .u64 (0)))],(.set 2),[]⟩]
def Ul:List AB:=[
 ⟨none,.r (fun s l=>match l with | [x]=>Bk Tryz.prog s 30 x | _=>none),[.var 1],.push,[]⟩,
 ⟨none,.p1 some,[.loc 0],(.set 3),[]⟩]
def Um:List AB:=[
 ⟨none,.p2 (AP Tryz.prog 30),[.var 0,.var 3],.push,[]⟩,
 ⟨none,.r1 (fun s a=>AE Tryz.prog s 192 a),[.loc 0],.push,[]⟩,
 ⟨none,.r1 (fun s x=>Ae Tryz.prog s 192 173 x),[.loc 0],.push,[]⟩,
 ⟨none,.p2 (AM Tryz.prog .shl 173),[(.loc 0),(.const (.int .u64 (32)))],.push,[]⟩,
 ⟨none,.p2 (AM Tryz.prog .sub 3),[(.var 3),(.const (.int .i64 (1)))],.push,[]⟩,
 ⟨none,.p2 (AP Tryz.prog 30),[.var 0,.loc 0],.push,[]⟩,
 ⟨none,.r1 (fun s a=>AE Tryz.prog s 192 a),[.loc 0],.push,[]⟩,
 ⟨none,.r1 (fun s x=>Ae Tryz.prog s 192 173 x),[.loc 0],.push,[]⟩,
 ⟨none,.p2 (AM Tryz.prog .or 173),[.loc 4,.loc 0],.push,[]⟩,
 ⟨none,.p1 some,[.loc 0],(.set 4),[]⟩]
def Un:List AB:=[
 ⟨none,.p2 (AM Tryz.prog .sub 3),[(.var 3),(.const (.int .i64 (1)))],.push,[]⟩,
 ⟨none,.p2 (AP Tryz.prog 30),[.var 1,.loc 0],.push,[]⟩,
 ⟨none,.r1 (fun s a=>AE Tryz.prog s 192 a),[.loc 0],.push,[]⟩,
 ⟨none,.r1 (fun s x=>Ae Tryz.prog s 192 173 x),[.loc 0],.push,[]⟩,
 ⟨none,.p2 (AM Tryz.prog .quo 173),[.var 4,.loc 0],.push,[]⟩,
 ⟨none,.p2 (AM Tryz.prog .sub 3),[(.var 3),(.const (.int .i64 (1)))],.push,[]⟩,
 ⟨none,.p2 (AP Tryz.prog 30),[.var 1,.loc 0],.push,[]⟩,
 ⟨none,.r1 (fun s a=>AE Tryz.prog s 192 a),[.loc 0],.push,[]⟩,
 ⟨none,.r1 (fun s x=>Ae Tryz.prog s 192 173 x),[.loc 0],.push,[]⟩,
 ⟨none,.p2 (AM Tryz.prog .rem 173),[.var 4,.loc 0],.push,[]⟩,
 ⟨none,.p1 some,[.loc 5],(.set 5),[]⟩,
 ⟨none,.p1 some,[.loc 0],(.set 6),[]⟩]
def Ht:List AB:=[
 ⟨none,.p2 (AM Tryz.prog .gtr 173),[(.var 5),(.const (.int .u64 (4294967295)))],.push,[]⟩,
 ⟨(some ((.loc 0),false)),.p1 some,[.var 5],.push,[]⟩,
 ⟨(some ((.loc 1),false)),.p1 some,[.var 1],.push,[]⟩,
 ⟨(some ((.loc 2),false)),.p1 some,[.var 3],.push,[]⟩,
 ⟨(some ((.loc 3),false)),.p2 (AM Tryz.prog .sub 3),[(.loc 0),(.const (.int .i64 (2)))],.push,[]⟩,
 ⟨(some ((.loc 4),false)),.p2 (AP Tryz.prog 30),[.loc 2,.loc 0],.push,[]⟩,
 ⟨(some ((.loc 5),false)),.r1 (fun s a=>AE Tryz.prog s 192 a),[.loc 0],.push,[]⟩,
 ⟨(some ((.loc 6),false)),.r1 (fun s x=>Ae Tryz.prog s 192 173 x),[.loc 0],.push,[]⟩,
 ⟨(some ((.loc 7),false)),.p2 (AM Tryz.prog .mul 173),[.loc 6,.loc 0],.push,[]⟩,
 ⟨(some ((.loc 8),false)),.p1 some,[.var 6],.push,[]⟩,
 ⟨(some ((.loc 9),false)),.p2 (AM Tryz.prog .shl 173),[(.loc 0),(.const (.int .u64 (32)))],.push,[]⟩,
 ⟨(some ((.loc 10),false)),.p1 some,[.var 0],.push,[]⟩,
 ⟨(some ((.loc 11),false)),.p1 some,[.var 3],.push,[]⟩,
 ⟨(some ((.loc 12),false)),.p2 (AM Tryz.prog .sub 3),[(.loc 0),(.const (.int .i64 (2)))],.push,[]⟩,
 ⟨(some ((.loc 13),false)),.p2 (AP Tryz.prog 30),[.loc 2,.loc 0],.push,[]⟩,
 ⟨(some ((.loc 14),false)),.r1 (fun s a=>AE Tryz.prog s 192 a),[.loc 0],.push,[]⟩,
 ⟨(some ((.loc 15),false)),.r1 (fun s x=>Ae Tryz.prog s 192 173 x),[.loc 0],.push,[]⟩,
 ⟨(some ((.loc 16),false)),.p2 (AM Tryz.prog .or 173),[.loc 6,.loc 0],.push,[]⟩,
 ⟨(some ((.loc 17),false)),.p2 (AM Tryz.prog .gtr 173),[.loc 9,.loc 0],.push,[]⟩,
 ⟨none,.p Rt,[(.loc 18),(.const (.bool true)),(.loc 0)],(.set 7),[]⟩]
def JX:List AB:=[
 ⟨none,.p1 some,[.var 5],.push,[]⟩,
 ⟨none,.p2 (AM Tryz.prog .sub 173),[(.loc 0),(.const (.int .u64 (1)))],.push,[]⟩,
 ⟨none,.p1 some,[.loc 0],(.set 5),[]⟩]
def JY:List AB:=[
 ⟨none,.p1 some,[.var 6],.push,[]⟩,
 ⟨none,.p2 (AM Tryz.prog .sub 3),[(.var 3),(.const (.int .i64 (1)))],.push,[]⟩,
 ⟨none,.p2 (AP Tryz.prog 30),[.var 1,.loc 0],.push,[]⟩,
 ⟨none,.r1 (fun s a=>AE Tryz.prog s 192 a),[.loc 0],.push,[]⟩,
 ⟨none,.r1 (fun s x=>Ae Tryz.prog s 192 173 x),[.loc 0],.push,[]⟩,
 ⟨none,.p2 (AM Tryz.prog .add 173),[.loc 4,.loc 0],.push,[]⟩,
 ⟨none,.p1 some,[.loc 0],(.set 6),[]⟩]
def JZ:List AB:=[
 ⟨none,.p2 (AM Tryz.prog .gtr 173),[(.var 6),(.const (.int .u64 (4294967295)))],(.set 8),[]⟩]
def Gk:Ab:=(.seq (.seq (.ops Ht) (.cond (.var 7)
 .skip
 (.exit 0))) (.block 1 (.seq (.ops JX) (.seq (.ops JY) (.seq (.ops JZ) (.cond (.var 8)
 (.exit 0)
 .skip))))))
def Uo:List AB:=[
 ⟨none,.p1 some,[.var 5],(.set 2),[]⟩]
def dh:Az:=⟨2,9,(.seq (.ops Uk) (.seq (.ops Ul) (.seq (.ops Um) (.seq (.ops Un) (.seq (.block 0 (.loop Gk)) (.seq (.ops Uo) .ret)))))),[((.var 2),none)]⟩
def Up:List AB:=[
 ⟨none,.p1 some,[(.const (.bool false))],(.set 3),[]⟩]
def Uq:List AB:=[
 ⟨none,.p1 some,[(.const (.int .u64 (0)))],(.set 4),[]⟩,
 ⟨none,.p1 some,[(.const (.int .u64 (0)))],(.set 5),[]⟩]
def Ur:List AB:=[
 ⟨none,.call 232,[.var 1],.push,[]⟩,
 ⟨none,.mk (fun l=>(Ak Tryz.prog 30 1 (zipIdx [0] l)).bind fun r=>some (r,.slice 1)),[(.const (.int .u32 (0)))],.push,[]⟩,
 ⟨none,.e (fun s l=>A8 Tryz.prog s [30,30] l),[.loc 1,.loc 0],(.set 9),[]⟩,
 ⟨none,.r (fun s l=>match l with | [x]=>Bk Tryz.prog s 30 x | _=>none),[.var 9],(.set 10),[]⟩,
 ⟨none,.p1 some,[(.const (.int .i64 (0)))],(.set 11),[]⟩]
def O6:List AB:=[
 ⟨none,.p2 (AM Tryz.prog .lss 3),[.var 11,.var 10],(.set 12),[]⟩]
def Us:List AB:=[
 ⟨none,.p2 (AP Tryz.prog 30),[.var 9,.var 11],.push,[]⟩,
 ⟨none,.r1 (fun s a=>AE Tryz.prog s 192 a),[.loc 0],.push,[]⟩,
 ⟨none,.p1 some,[.var 11],(.set 6),[]⟩,
 ⟨none,.p1 some,[.loc 0],(.set 7),[]⟩]
def Ut:List AB:=[
 ⟨none,.p1 some,[.var 4],.push,[]⟩,
 ⟨none,.r1 (fun s x=>Ae Tryz.prog s 192 173 x),[.var 7],.push,[]⟩,
 ⟨none,.p2 (AM Tryz.prog .mul 173),[.var 2,.loc 0],.push,[]⟩,
 ⟨none,.p2 (AM Tryz.prog .add 173),[.loc 2,.loc 0],.push,[]⟩,
 ⟨none,.p1 some,[.loc 0],(.set 4),[]⟩]
def Uu:List AB:=[
 ⟨none,.p2 (AP Tryz.prog 30),[.var 0,.var 6],.push,[]⟩,
 ⟨none,.r1 (fun s a=>AE Tryz.prog s 192 a),[.loc 0],.push,[]⟩,
 ⟨none,.r1 (fun s x=>Ae Tryz.prog s 192 173 x),[.loc 0],.push,[]⟩,
 ⟨none,.p2 (AM Tryz.prog .and 173),[(.var 4),(.const (.int .u64 (4294967295)))],.push,[]⟩,
 ⟨none,.p2 (AM Tryz.prog .sub 173),[.loc 1,.loc 0],.push,[]⟩,
 ⟨none,.p2 (AM Tryz.prog .sub 173),[.loc 0,.var 5],.push,[]⟩,
 ⟨none,.p1 some,[.loc 0],(.set 8),[]⟩]
def Uv:List AB:=[
 ⟨none,.p2 (AM Tryz.prog .and 173),[(.var 8),(.const (.int .u64 (4294967295)))],.push,[]⟩,
 ⟨none,.r1 (fun s x=>Ae Tryz.prog s 173 192 x),[.loc 0],.push,[]⟩,
 ⟨none,.p2 (AP Tryz.prog 30),[.var 0,.var 6],.push,[]⟩,
 ⟨none,.e (fun s=>Xx (fun a x=>Xz (Aa Tryz.prog s 192 a x))),[.loc 0,.loc 1],.push,[]⟩]
def Uw:List AB:=[
 ⟨none,.p1 some,[.var 4],.push,[]⟩,
 ⟨none,.p2 (AM Tryz.prog .shr 173),[(.loc 0),(.const (.int .u64 (32)))],.push,[]⟩,
 ⟨none,.p1 some,[.loc 0],(.set 4),[]⟩]
def Ux:List AB:=[
 ⟨none,.p2 (AM Tryz.prog .shr 173),[(.var 8),(.const (.int .u64 (63)))],.push,[]⟩,
 ⟨none,.p1 some,[.loc 0],(.set 5),[]⟩]
def RK:List AB:=[
 ⟨none,.p2 (AM Tryz.prog .add 3),[(.var 11),(.const (.int .i64 (1)))],.push,[]⟩,
 ⟨none,.p1 some,[.loc 0],(.set 11),[]⟩]
def G8:Ab:=(.seq (.ops O6) (.seq (.cond (.var 12)
 .skip
 (.exit 0)) (.seq (.block 1 (.seq (.ops Us) (.seq (.ops Ut) (.seq (.ops Uu) (.seq (.ops Uv) (.seq (.ops Uw) (.ops Ux))))))) (.ops RK))))
def RL:List AB:=[
 ⟨none,.p2 (AM Tryz.prog .gtr 173),[(.var 5),(.const (.int .u64 (0)))],.push,[]⟩,
 ⟨none,.p1 some,[.loc 0],(.set 3),[]⟩]
def di:Az:=⟨3,13,(.seq (.ops Up) (.seq (.ops Uq) (.seq (.seq (.ops Ur) (.block 0 (.loop G8))) (.seq (.ops RL) .ret)))),[((.var 3),none)]⟩
def Uy:List AB:=[
 ⟨none,.p1 some,[(.const (.int .u64 (0)))],(.set 2),[]⟩]
def Uz:List AB:=[
 ⟨none,.call 232,[.var 1],.push,[]⟩,
 ⟨none,.mk (fun l=>(Ak Tryz.prog 30 1 (zipIdx [0] l)).bind fun r=>some (r,.slice 1)),[(.const (.int .u32 (0)))],.push,[]⟩,
 ⟨none,.e (fun s l=>A8 Tryz.prog s [30,30] l),[.loc 1,.loc 0],(.set 5),[]⟩,
 ⟨none,.r (fun s l=>match l with | [x]=>Bk Tryz.prog s 30 x | _=>none),[.var 5],(.set 6),[]⟩,
 ⟨none,.p1 some,[(.const (.int .i64 (0)))],(.set 7),[]⟩]
def O7:List AB:=[
 ⟨none,.p2 (AM Tryz.prog .lss 3),[.var 7,.var 6],(.set 8),[]⟩]
def U1:List AB:=[
 ⟨none,.p2 (AP Tryz.prog 30),[.var 5,.var 7],.push,[]⟩,
 ⟨none,.r1 (fun s a=>AE Tryz.prog s 192 a),[.loc 0],.push,[]⟩,
 ⟨none,.p1 some,[.var 7],(.set 3),[]⟩,
 ⟨none,.p1 some,[.loc 0],(.set 4),[]⟩]
def U2:List AB:=[
 ⟨none,.p1 some,[.var 2],.push,[]⟩,
 ⟨none,.p2 (AP Tryz.prog 30),[.var 0,.var 3],.push,[]⟩,
 ⟨none,.r1 (fun s a=>AE Tryz.prog s 192 a),[.loc 0],.push,[]⟩,
 ⟨none,.r1 (fun s x=>Ae Tryz.prog s 192 173 x),[.loc 0],.push,[]⟩,
 ⟨none,.r1 (fun s x=>Ae Tryz.prog s 192 173 x),[.var 4],.push,[]⟩,
 ⟨none,.p2 (AM Tryz.prog .add 173),[.loc 1,.loc 0],.push,[]⟩,
 ⟨none,.p2 (AM Tryz.prog .add 173),[.loc 5,.loc 0],.push,[]⟩,
 ⟨none,.p1 some,[.loc 0],(.set 2),[]⟩]
def U3:List AB:=[
 ⟨none,.p2 (AM Tryz.prog .and 173),[(.var 2),(.const (.int .u64 (4294967295)))],.push,[]⟩,
 ⟨none,.r1 (fun s x=>Ae Tryz.prog s 173 192 x),[.loc 0],.push,[]⟩,
 ⟨none,.p2 (AP Tryz.prog 30),[.var 0,.var 3],.push,[]⟩,
 ⟨none,.e (fun s=>Xx (fun a x=>Xz (Aa Tryz.prog s 192 a x))),[.loc 0,.loc 1],.push,[]⟩]
def U4:List AB:=[
 ⟨none,.p1 some,[.var 2],.push,[]⟩,
 ⟨none,.p2 (AM Tryz.prog .shr 173),[(.loc 0),(.const (.int .u64 (32)))],.push,[]⟩,
 ⟨none,.p1 some,[.loc 0],(.set 2),[]⟩]
def U5:List AB:=[
 ⟨none,.p2 (AM Tryz.prog .add 3),[(.var 7),(.const (.int .i64 (1)))],.push,[]⟩,
 ⟨none,.p1 some,[.loc 0],(.set 7),[]⟩]
def Ja:Ab:=(.seq (.ops O7) (.seq (.cond (.var 8)
 .skip
 (.exit 0)) (.seq (.block 1 (.seq (.ops U1) (.seq (.ops U2) (.seq (.ops U3) (.ops U4))))) (.ops U5))))
def dj:Az:=⟨2,9,(.seq (.ops Uy) (.seq (.ops Uz) (.block 0 (.loop Ja)))),[]⟩
def T3:List AB:=[
 ⟨none,.p1 some,[(.const (.slice none 0 (some 0)))],(.set 2),[]⟩,
 ⟨none,.p1 some,[(.const (.slice none 0 (some 0)))],(.set 3),[]⟩,
 ⟨none,.p1 some,[(.const (.int .i64 (0)))],(.set 4),[]⟩]
def T4:List AB:=[
 ⟨none,.p1 some,[.var 0],.push,[]⟩,
 ⟨none,.call 177,[.loc 0],.push,[]⟩,
 ⟨none,.p1 some,[.var 1],.push,[]⟩,
 ⟨none,.call 177,[.loc 0],.push,[]⟩,
 ⟨none,.p1 some,[.loc 2],(.set 0),[]⟩,
 ⟨none,.p1 some,[.loc 0],(.set 1),[]⟩]
def Ou:List AB:=[
 ⟨none,.r (fun s l=>match l with | [x]=>Bk Tryz.prog s 30 x | _=>none),[.var 1],.push,[]⟩,
 ⟨none,.p2 (AM Tryz.prog .eql 3),[(.loc 0),(.const (.int .i64 (0)))],.push,[]⟩,
 ⟨none,.p1 some,[.loc 0],(.set 13),[]⟩]
def T5:List AB:=[
 ⟨none,.p1 some,[(.const (.slice none 0 (some 0)))],(.set 2),[]⟩,
 ⟨none,.p1 some,[(.const (.slice none 0 (some 0)))],(.set 3),[]⟩,
 ⟨none,.p1 some,[(.const (.int .i64 (3)))],(.set 4),[]⟩]
def T6:List AB:=[
 ⟨none,.call 180,[.var 0,.var 1],.push,[]⟩,
 ⟨none,.p2 (AM Tryz.prog .lss 3),[(.loc 0),(.const (.int .i64 (0)))],.push,[]⟩,
 ⟨none,.p1 some,[.loc 0],(.set 14),[]⟩]
def T7:List AB:=[
 ⟨none,.p1 some,[(.const (.slice none 0 (some 0)))],(.set 2),[]⟩,
 ⟨none,.p1 some,[.var 0],(.set 3),[]⟩,
 ⟨none,.p1 some,[(.const (.int .i64 (0)))],(.set 4),[]⟩]
def Ov:List AB:=[
 ⟨none,.r (fun s l=>match l with | [x]=>Bk Tryz.prog s 30 x | _=>none),[.var 1],.push,[]⟩,
 ⟨none,.p2 (AM Tryz.prog .eql 3),[(.loc 0),(.const (.int .i64 (1)))],.push,[]⟩,
 ⟨none,.p1 some,[.loc 0],(.set 15),[]⟩]
def T8:List AB:=[
 ⟨none,.p2 (AP Tryz.prog 30),[(.var 1),(.const (.int .i64 (0)))],.push,[]⟩,
 ⟨none,.r1 (fun s a=>AE Tryz.prog s 192 a),[.loc 0],.push,[]⟩,
 ⟨none,.r1 (fun s x=>Ae Tryz.prog s 192 173 x),[.loc 0],.push,[]⟩,
 ⟨none,.call 181,[.var 0,.loc 0],.push,[]⟩,
 ⟨none,.p1 (fun x=>Za x 0),[.loc 0],.push,[]⟩,
 ⟨none,.p1 (fun x=>Za x 1),[.loc 1],.push,[]⟩,
 ⟨none,.p1 some,[.loc 1],(.set 5),[]⟩,
 ⟨none,.p1 some,[.loc 0],(.set 6),[]⟩]
def T9:List AB:=[
 ⟨none,.call 131,[.var 6],.push,[]⟩,
 ⟨none,.p1 some,[.var 5],(.set 2),[]⟩,
 ⟨none,.p1 some,[.loc 0],(.set 3),[]⟩,
 ⟨none,.p1 some,[(.const (.int .i64 (0)))],(.set 4),[]⟩]
def UA:List AB:=[
 ⟨none,.p1 some,[(.const (.int .u64 (0)))],(.set 7),[]⟩]
def L8:List AB:=[
 ⟨none,.r (fun s l=>match l with | [x]=>Bk Tryz.prog s 30 x | _=>none),[.var 1],.push,[]⟩,
 ⟨none,.p2 (AM Tryz.prog .sub 3),[(.loc 0),(.const (.int .i64 (1)))],.push,[]⟩,
 ⟨none,.p2 (AP Tryz.prog 30),[.var 1,.loc 0],.push,[]⟩,
 ⟨none,.r1 (fun s a=>AE Tryz.prog s 192 a),[.loc 0],.push,[]⟩,
 ⟨none,.p2 (AM Tryz.prog .shl 192),[.loc 0,.var 7],.push,[]⟩,
 ⟨none,.p2 (AM Tryz.prog .shr 192),[(.loc 0),(.const (.int .u64 (31)))],.push,[]⟩,
 ⟨none,.p2 (AM Tryz.prog .eql 192),[(.loc 0),(.const (.int .u32 (0)))],(.set 16),[]⟩]
def QY:List AB:=[
 ⟨none,.p1 some,[.var 7],.push,[]⟩,
 ⟨none,.p2 (AM Tryz.prog .add 193),[(.loc 0),(.const (.int .u64 (1)))],.push,[]⟩,
 ⟨none,.p1 some,[.loc 0],(.set 7),[]⟩]
def G5:Ab:=(.seq (.seq (.ops L8) (.cond (.var 16)
 .skip
 (.exit 1))) (.block 2 (.ops QY)))
def QZ:List AB:=[
 ⟨none,.r (fun s l=>match l with | [x]=>Bk Tryz.prog s 30 x | _=>none),[.var 1],.push,[]⟩,
 ⟨none,.call 182,[.var 0,.var 7],.push,[⟨none,.r (fun s l=>match l with | [x]=>Bk Tryz.prog s 30 x | _=>none),[.var 1],(.loc 1)⟩]⟩,
 ⟨none,.call 182,[.var 1,.var 7],.push,[⟨none,.r (fun s l=>match l with | [x]=>Bk Tryz.prog s 30 x | _=>none),[.var 1],(.loc 2)⟩]⟩,
 ⟨none,.r (Bg Tryz.prog 30 false true false),[.loc 0,.loc 2],.push,[]⟩,
 ⟨none,.p1 some,[.loc 2],(.set 8),[]⟩,
 ⟨none,.p1 some,[.loc 0],(.set 9),[]⟩]
def Q1:List AB:=[
 ⟨none,.r (fun s l=>match l with | [x]=>Bk Tryz.prog s 30 x | _=>none),[.var 8],.push,[]⟩,
 ⟨none,.r (fun s l=>match l with | [x]=>Bk Tryz.prog s 30 x | _=>none),[.var 9],.push,[]⟩,
 ⟨none,.p2 (AM Tryz.prog .sub 3),[.loc 1,.loc 0],.push,[]⟩,
 ⟨none,.mk (Xx (Bv Tryz.prog 30)),[.loc 0,.loc 0],.push,[]⟩,
 ⟨none,.p1 some,[.loc 0],(.set 2),[]⟩]
def Q2:List AB:=[
 ⟨none,.r (fun s l=>match l with | [x]=>Bk Tryz.prog s 30 x | _=>none),[.var 2],.push,[]⟩,
 ⟨none,.p2 (AM Tryz.prog .sub 3),[(.loc 0),(.const (.int .i64 (1)))],.push,[]⟩,
 ⟨none,.p1 some,[.loc 0],(.set 10),[]⟩]
def L9:List AB:=[
 ⟨none,.p2 (AM Tryz.prog .geq 3),[(.var 10),(.const (.int .i64 (0)))],(.set 17),[]⟩]
def Q3:List AB:=[
 ⟨none,.r (fun s l=>match l with | [x]=>Bk Tryz.prog s 30 x | _=>none),[.var 9],.push,[]⟩,
 ⟨none,.p2 (AM Tryz.prog .add 3),[.var 10,.loc 0],.push,[]⟩,
 ⟨none,.p2 (AM Tryz.prog .add 3),[(.loc 0),(.const (.int .i64 (1)))],.push,[]⟩,
 ⟨none,.r (Bg Tryz.prog 30 true true false),[.var 8,.var 10,.loc 0],.push,[]⟩,
 ⟨none,.p1 some,[.loc 0],(.set 11),[]⟩]
def Q4:List AB:=[
 ⟨none,.call 183,[.var 11,.var 9],.push,[]⟩,
 ⟨none,.p1 some,[.loc 0],(.set 12),[]⟩]
def Q5:List AB:=[
 ⟨none,.call 184,[.var 11,.var 9,.var 12],(.set 18),[]⟩]
def Q6:List AB:=[
 ⟨none,.call 185,[.var 11,.var 9],.push,[]⟩]
def Q7:List AB:=[
 ⟨none,.p1 some,[.var 12],.push,[]⟩,
 ⟨none,.p2 (AM Tryz.prog .sub 173),[(.loc 0),(.const (.int .u64 (1)))],.push,[]⟩,
 ⟨none,.p1 some,[.loc 0],(.set 12),[]⟩]
def MA:List AB:=[
 ⟨none,.r1 (fun s x=>Ae Tryz.prog s 173 192 x),[.var 12],.push,[]⟩,
 ⟨none,.p2 (AP Tryz.prog 30),[.var 2,.var 10],.push,[]⟩,
 ⟨none,.e (fun s=>Xx (fun a x=>Xz (Aa Tryz.prog s 192 a x))),[.loc 0,.loc 1],.push,[]⟩]
def MB:List AB:=[
 ⟨none,.p1 some,[.var 10],.push,[]⟩,
 ⟨none,.p2 (AM Tryz.prog .sub 3),[(.loc 0),(.const (.int .i64 (1)))],.push,[]⟩,
 ⟨none,.p1 some,[.loc 0],(.set 10),[]⟩]
def F8:Ab:=(.seq (.seq (.ops L9) (.cond (.var 17)
 .skip
 (.exit 3))) (.seq (.block 4 (.seq (.ops Q3) (.seq (.ops Q4) (.seq (.seq (.ops Q5) (.cond (.var 18)
 (.seq (.ops Q6) (.ops Q7))
 .skip)) (.ops MA))))) (.ops MB)))
def Q8:List AB:=[
 ⟨none,.p2 (AM Tryz.prog .shl 173),[(.const (.int .u64 (1))),(.var 7)],.push,[]⟩,
 ⟨none,.call 181,[.var 8,.loc 0],.push,[]⟩,
 ⟨none,.p1 (fun x=>Za x 0),[.loc 0],.push,[]⟩,
 ⟨none,.p1 (fun x=>Za x 1),[.loc 1],.push,[]⟩,
 ⟨none,.p1 some,[.loc 1],(.set 3),[]⟩]
def Q9:List AB:=[
 ⟨none,.p1 some,[.var 2],.push,[]⟩,
 ⟨none,.call 177,[.loc 0],.push,[]⟩,
 ⟨none,.p1 some,[.var 3],.push,[]⟩,
 ⟨none,.p1 some,[.loc 1],(.set 2),[]⟩,
 ⟨none,.p1 some,[.loc 0],(.set 3),[]⟩,
 ⟨none,.p1 some,[(.const (.int .i64 (0)))],(.set 4),[]⟩]
def dW:Az:=⟨2,19,(.seq (.ops T3) (.seq (.ops T4) (.seq (.block 0 (.seq (.ops Ou) (.cond (.var 13)
 (.seq (.ops T5) .ret)
 (.seq (.ops T6) (.cond (.var 14)
 (.seq (.ops T7) .ret)
 (.seq (.ops Ov) (.cond (.var 15)
 (.seq (.ops T8) (.seq (.ops T9) .ret))
 .skip))))))) (.seq (.ops UA) (.seq (.block 1 (.loop G5)) (.seq (.ops QZ) (.seq (.ops Q1) (.seq (.seq (.ops Q2) (.block 3 (.loop F8))) (.seq (.ops Q8) (.seq (.ops Q9) .ret)))))))))),[((.var 2),none),((.var 3),none),((.var 4),none)]⟩
def Tw:List AB:=[
 ⟨none,.p1 some,[(.const (.slice none 0 (some 0)))],(.set 2),[]⟩]
def Tx:List AB:=[
 ⟨none,.p1 some,[.var 0],.push,[]⟩,
 ⟨none,.call 177,[.loc 0],.push,[]⟩,
 ⟨none,.p1 some,[.var 1],.push,[]⟩,
 ⟨none,.call 177,[.loc 0],.push,[]⟩,
 ⟨none,.p1 some,[.loc 2],(.set 0),[]⟩,
 ⟨none,.p1 some,[.loc 0],(.set 1),[]⟩]
def Ot:List AB:=[
 ⟨none,.r (fun s l=>match l with | [x]=>Bk Tryz.prog s 30 x | _=>none),[.var 1],.push,[]⟩,
 ⟨none,.p2 (AM Tryz.prog .gtr 3),[(.loc 0),(.const (.int .i64 (0)))],(.set 4),[]⟩]
def Ty:List AB:=[
 ⟨none,.call 134,[.var 0,.var 1],.push,[]⟩,
 ⟨none,.p1 (fun x=>Za x 0),[.loc 0],.push,[]⟩,
 ⟨none,.p1 (fun x=>Za x 1),[.loc 1],.push,[]⟩,
 ⟨none,.p1 (fun x=>Za x 2),[.loc 2],.push,[]⟩,
 ⟨none,.p1 some,[.loc 2],.push,[]⟩,
 ⟨none,.p1 some,[.loc 2],(.set 3),[]⟩,
 ⟨none,.p1 some,[.loc 1],.push,[]⟩]
def Tz:List AB:=[
 ⟨none,.p1 some,[.var 1],.push,[]⟩,
 ⟨none,.p1 some,[.loc 0],(.set 0),[]⟩,
 ⟨none,.p1 some,[.var 3],(.set 1),[]⟩]
def JT:Ab:=(.seq (.seq (.ops Ot) (.cond (.var 4)
 .skip
 (.exit 0))) (.block 1 (.seq (.ops Ty) (.ops Tz))))
def T0:List AB:=[
 ⟨none,.p1 some,[.var 0],(.set 2),[]⟩]
def dV:Az:=⟨2,5,(.seq (.ops Tw) (.seq (.ops Tx) (.seq (.block 0 (.loop JT)) (.seq (.ops T0) .ret)))),[((.var 2),none)]⟩
def UB:List AB:=[
 ⟨none,.p1 some,[(.const (.slice none 0 (some 0)))],(.set 2),[]⟩]
def UC:List AB:=[
 ⟨none,.r (fun s l=>match l with | [x]=>Bk Tryz.prog s 30 x | _=>none),[.var 0],.push,[]⟩,
 ⟨none,.r (fun s l=>match l with | [x]=>Bk Tryz.prog s 30 x | _=>none),[.var 1],.push,[]⟩,
 ⟨none,.p2 (AM Tryz.prog .add 3),[.loc 1,.loc 0],.push,[]⟩,
 ⟨none,.mk (Xx (Bv Tryz.prog 30)),[.loc 0,.loc 0],.push,[]⟩,
 ⟨none,.p1 some,[.loc 0],(.set 3),[]⟩]
def UD:List AB:=[
 ⟨none,.p1 some,[.var 0],(.set 9),[]⟩,
 ⟨none,.r (fun s l=>match l with | [x]=>Bk Tryz.prog s 30 x | _=>none),[.var 9],(.set 10),[]⟩,
 ⟨none,.p1 some,[(.const (.int .i64 (0)))],(.set 11),[]⟩]
def Ow:List AB:=[
 ⟨none,.p2 (AM Tryz.prog .lss 3),[.var 11,.var 10],(.set 12),[]⟩]
def UE:List AB:=[
 ⟨none,.p2 (AP Tryz.prog 30),[.var 9,.var 11],.push,[]⟩,
 ⟨none,.r1 (fun s a=>AE Tryz.prog s 192 a),[.loc 0],.push,[]⟩,
 ⟨none,.p1 some,[.var 11],(.set 4),[]⟩,
 ⟨none,.p1 some,[.loc 0],(.set 5),[]⟩]
def UF:List AB:=[
 ⟨none,.p1 some,[(.const (.int .u64 (0)))],(.set 6),[]⟩]
def UG:List AB:=[
 ⟨none,.p1 some,[.var 1],(.set 13),[]⟩,
 ⟨none,.r (fun s l=>match l with | [x]=>Bk Tryz.prog s 30 x | _=>none),[.var 13],(.set 14),[]⟩,
 ⟨none,.p1 some,[(.const (.int .i64 (0)))],(.set 15),[]⟩]
def Ox:List AB:=[
 ⟨none,.p2 (AM Tryz.prog .lss 3),[.var 15,.var 14],(.set 16),[]⟩]
def UH:List AB:=[
 ⟨none,.p2 (AP Tryz.prog 30),[.var 13,.var 15],.push,[]⟩,
 ⟨none,.r1 (fun s a=>AE Tryz.prog s 192 a),[.loc 0],.push,[]⟩,
 ⟨none,.p1 some,[.var 15],(.set 7),[]⟩,
 ⟨none,.p1 some,[.loc 0],(.set 8),[]⟩]
def UI:List AB:=[
 ⟨none,.p1 some,[.var 6],.push,[]⟩,
 ⟨none,.r1 (fun s x=>Ae Tryz.prog s 192 173 x),[.var 5],.push,[]⟩,
 ⟨none,.r1 (fun s x=>Ae Tryz.prog s 192 173 x),[.var 8],.push,[]⟩,
 ⟨none,.p2 (AM Tryz.prog .mul 173),[.loc 1,.loc 0],.push,[]⟩,
 ⟨none,.p2 (AM Tryz.prog .add 3),[.var 4,.var 7],.push,[]⟩,
 ⟨none,.p2 (AP Tryz.prog 30),[.var 3,.loc 0],.push,[]⟩,
 ⟨none,.r1 (fun s a=>AE Tryz.prog s 192 a),[.loc 0],.push,[]⟩,
 ⟨none,.r1 (fun s x=>Ae Tryz.prog s 192 173 x),[.loc 0],.push,[]⟩,
 ⟨none,.p2 (AM Tryz.prog .add 173),[.loc 4,.loc 0],.push,[]⟩,
 ⟨none,.p2 (AM Tryz.prog .add 173),[.loc 8,.loc 0],.push,[]⟩,
 ⟨none,.p1 some,[.loc 0],(.set 6),[]⟩]
def RA:List AB:=[
 ⟨none,.p2 (AM Tryz.prog .add 3),[.var 4,.var 7],.push,[]⟩,
 ⟨none,.p2 (AM Tryz.prog .and 173),[(.var 6),(.const (.int .u64 (4294967295)))],.push,[]⟩,
 ⟨none,.r1 (fun s x=>Ae Tryz.prog s 173 192 x),[.loc 0],.push,[]⟩,
 ⟨none,.p2 (AP Tryz.prog 30),[.var 3,.loc 2],.push,[]⟩,
 ⟨none,.e (fun s=>Xx (fun a x=>Xz (Aa Tryz.prog s 192 a x))),[.loc 0,.loc 1],.push,[]⟩]
def RC:List AB:=[
 ⟨none,.p1 some,[.var 6],.push,[]⟩,
 ⟨none,.p2 (AM Tryz.prog .shr 173),[(.loc 0),(.const (.int .u64 (32)))],.push,[]⟩,
 ⟨none,.p1 some,[.loc 0],(.set 6),[]⟩]
def RD:List AB:=[
 ⟨none,.p2 (AM Tryz.prog .add 3),[(.var 15),(.const (.int .i64 (1)))],.push,[]⟩,
 ⟨none,.p1 some,[.loc 0],(.set 15),[]⟩]
def G6:Ab:=(.seq (.ops Ox) (.seq (.cond (.var 16)
 .skip
 (.exit 2)) (.seq (.block 3 (.seq (.ops UH) (.seq (.ops UI) (.seq (.ops RA) (.ops RC))))) (.ops RD))))
def RE:List AB:=[
 ⟨none,.r (fun s l=>match l with | [x]=>Bk Tryz.prog s 30 x | _=>none),[.var 1],.push,[]⟩,
 ⟨none,.p2 (AM Tryz.prog .add 3),[.var 4,.loc 0],.push,[]⟩,
 ⟨none,.r1 (fun s x=>Ae Tryz.prog s 173 192 x),[.var 6],.push,[]⟩,
 ⟨none,.p2 (AP Tryz.prog 30),[.var 3,.loc 1],.push,[]⟩,
 ⟨none,.e (fun s=>Xx (fun a x=>Xz (Aa Tryz.prog s 192 a x))),[.loc 0,.loc 1],.push,[]⟩]
def RF:List AB:=[
 ⟨none,.p2 (AM Tryz.prog .add 3),[(.var 11),(.const (.int .i64 (1)))],.push,[]⟩,
 ⟨none,.p1 some,[.loc 0],(.set 11),[]⟩]
def G7:Ab:=(.seq (.ops Ow) (.seq (.cond (.var 12)
 .skip
 (.exit 0)) (.seq (.block 1 (.seq (.ops UE) (.seq (.ops UF) (.seq (.seq (.ops UG) (.block 2 (.loop G6))) (.ops RE))))) (.ops RF))))
def RG:List AB:=[
 ⟨none,.call 177,[.var 3],.push,[]⟩,
 ⟨none,.p1 some,[.loc 0],(.set 2),[]⟩]
def dX:Az:=⟨2,17,(.seq (.ops UB) (.seq (.ops UC) (.seq (.seq (.ops UD) (.block 0 (.loop G7))) (.seq (.ops RG) .ret)))),[((.var 2),none)]⟩
theorem RZ:AS Tryz.prog 177=some cH:=by kernel_rfl
theorem Rl:AS Tryz.prog 232=some ZM:=by kernel_rfl
theorem ZS:AS Tryz.prog 131=some dU:=by kernel_rfl
theorem ZZ:AS Tryz.prog 180=some de:=by kernel_rfl
theorem Zk:AS Tryz.prog 234=some du:=by kernel_rfl
theorem Zc:AS Tryz.prog 182=some dg:=by kernel_rfl
theorem Zb:AS Tryz.prog 181=some df:=by kernel_rfl
theorem Zd:AS Tryz.prog 183=some dh:=by kernel_rfl
theorem Ze:AS Tryz.prog 184=some di:=by kernel_rfl
theorem Zf:AS Tryz.prog 185=some dj:=by kernel_rfl
theorem ZU:AS Tryz.prog 134=some dW:=by kernel_rfl
theorem ZT:AS Tryz.prog 133=some dV:=by kernel_rfl
theorem ZV:AS Tryz.prog 135=some dX:=by kernel_rfl
end
end Go.Proofs.YtdmgdlbodeemeaaGreatDoor.Am
set_option linter.unusedVariables false
namespace Go.Proofs.YtdmgdlbodeemeaaGreatDoor.Am
noncomputable section
def LB:Nat:=4294967296
theorem A4:0<LB:=by decide
def AC:List Nat→Nat
 | []=>0
 | x::l=>x+LB * AC l
def BY(l:List Nat):Prop:=∀x∈l,x<LB
def AI(n:Nat):List Nat:=if h:n=0 then []else n % LB::AI (n / LB)
termination_by n
decreasing_by exact Nat.div_lt_self (by omega) (by decide)
theorem A7:AI 0=[]:=by rw[AI];rfl
theorem Dv{n:Nat}(h:n≠0):AI n=n % LB::AI (n / LB):=by rw[AI,dif_neg h]
theorem Ca{n:Nat}(h:n≠0):AI n≠[]:=by rw[Dv h];exact fun e=>by cases e
theorem AZ(n:Nat):AC (AI n)=n:=by
 induction n using Nat.strongRecOn with
 | _ n ih =>
  by_cases h:n=0
  ·rw[h,A7];rfl
  ·rw[Dv h]
   show n % LB+LB * AC (AI (n / LB))=n
   rw[ih (n / LB) (Nat.div_lt_self (by omega) (by decide))]
   exact gu n LB
theorem AR(n:Nat):BY (AI n):=by
 induction n using Nat.strongRecOn with
 | _ n ih =>
  by_cases h:n=0
  ·rw[h,A7];intro x hx;cases hx
  ·rw[Dv h]
   intro x hx
   rcases gg.1 hx with e | e
   ·rw[e];exact fo _ A4
   ·exact ih (n / LB) (Nat.div_lt_self (by omega) (by decide)) x e
def C7:List Nat→List Nat
 | []=>[]
 | x::l=>if x=0∧C7 l=[]then []else x::C7 l
theorem BY.tail{x:Nat}{l:List Nat}(h:BY (x::l)):BY l:=fun y hy=>h y (fh _ hy)
theorem BJ      : ∀ {l : List Nat}, BY  l → C7    l = AI    (AC   l)
  | [],_=>by rw[C7,AC,A7]
  | x::l,h=>by
    have ih:=BJ h.tail
    have hx:=h x fc
    unfold C7
    show(if x=0∧C7 l=[]then []else x::C7 l)=AI (x+LB * AC l)
    by_cases hz:x+LB * AC l=0
    · have h1 : x = 0 := by omega
      have h2:AC l=0:=by
        have:LB * AC l=0:=by omega
        rcases Nat.mul_eq_zero.1 this with q | q
        · exact absurd q (by decide)
        · exact q
      rw[if_pos ⟨h1,by rw[ih,h2,A7]⟩,hz,A7]
    · rw[Dv hz]
      have hm:(x+LB * AC l) % LB=x:=by rw[Nat.add_mul_mod_self_left,fy hx]
      have hd:(x+LB * AC l) / LB=AC l:=by rw[Nat.add_mul_div_left _ _ A4,gT hx,fY]
      rw[hm,hd]
      rw[if_neg,ih]
      rintro⟨q1,q2⟩
      rw[ih]at q2
      by_cases hv:AC l=0
      · rw[q1,hv]at hz;exact hz rfl
      · exact Ca hv q2
theorem BA:∀ (a b:List Nat),AC (a++b)=AC a+LB ^ a.length * AC b
 | [],b=>by simp[AC]
 | x::a,b=>by
  show x+LB * AC (a++b)=x+LB * AC a+LB ^ (a.length+1) * AC b
  rw[BA a b,fw,gG,← fk,fe LB (LB ^ a.length)]
  omega
theorem CE:∀ {l:List Nat},BY l→AC l<LB ^ l.length
 | [],_=>by simp[AC]
 | x::l,h=>by
  have ih:=CE h.tail
  have hx:=h x fc
  show x+LB * AC l<LB ^ (l.length+1)
  rw[gG,fe (LB ^ l.length) LB]
  have:LB * (AC l+1)≤LB * LB ^ l.length:=fz LB ih
  rw[fw]at this
  omega
theorem S8{a b:Nat}(h:AI a=AI b):a=b:=by rw[← AZ a,h,AZ]
def It:List Nat→Nat→Nat→List Nat
 | [],_,c=>[c]
 | y::a,x,c=>(c+x * y) % LB::It a x ((c+x * y) / LB)
theorem I0:∀ (a:List Nat)(x c:Nat),AC (It a x c)=AC a * x+c
 | [],x,c=>by simp[It,AC]
 | y::a,x,c=>by
  have h1:=I0 a x ((c+x * y) / LB)
  have h2:=gu (c+x * y) LB
  show(c+x * y) % LB+LB * AC (It a x ((c+x * y) / LB))=(y+LB * AC a) * x+c
  rw[h1,fw,fu,fe y x,fk]
  omega
def Bb(a b:List Nat):List (Nat×Nat):=(List.range (max a.length b.length)).map fun i=>(a.getD i 0,b.getD i 0)
theorem GO(k:Nat):AC (List.replicate k 0)=0:=by
 induction k with
 | zero=>rfl
 | succ k ih =>
  rw[List.replicate_succ]
  show 0+LB * AC (List.replicate k 0)=0
  rw[ih];rfl
theorem YF{a:List Nat}{n:Nat}(h:a.length≤n):(List.range n).map (fun i=>a.getD i 0)=a++List.replicate (n - a.length) 0:=by
 refine List.ext_getElem (by simp;omega) fun i h1 h2=>?_
 simp only[List.getElem_map,List.getElem_range]
 by_cases hi:i<a.length
 ·rw[List.getElem_append_left hi,g0,fX hi];rfl
 ·rw[List.getElem_append_right (by omega),List.getElem_replicate,g0,ff (by omega)];rfl
theorem Sa(a:List Nat)(k:Nat):AC (a++List.replicate k 0)=AC a:=by rw[BA,GO];omega
theorem SZ(a b:List Nat):AC ((Bb a b).map Prod.fst)=AC a:=by
 unfold Bb
 rw[List.map_map]
 have:=YF (a:=a) (n:=max a.length b.length) (by omega)
 show AC ((List.range _).map fun i=>a.getD i 0)=_
 rw[this,Sa]
theorem Sb(a b:List Nat):AC ((Bb a b).map Prod.snd)=AC b:=by
 unfold Bb
 rw[List.map_map]
 have:=YF (a:=b) (n:=max a.length b.length) (by omega)
 show AC ((List.range _).map fun i=>b.getD i 0)=_
 rw[this,Sa]
def DQ:List (Nat×Nat)→Nat→List Nat×Nat
 | [],c=>([],c)
 | p::P,c=>((p.1+p.2+c) % LB::(DQ P ((p.1+p.2+c) / LB)).1,(DQ P ((p.1+p.2+c) / LB)).2)
theorem JO:∀ (P:List (Nat×Nat))(c:Nat),AC (DQ P c).1+LB ^ P.length * (DQ P c).2=AC (P.map Prod.fst)+AC (P.map Prod.snd)+c
 | [],c=>by simp[DQ,AC]
 | p::P,c=>by
  have h1:=JO P ((p.1+p.2+c) / LB)
  have h2:=gu (p.1+p.2+c) LB
  show(p.1+p.2+c) % LB+LB * AC (DQ P ((p.1+p.2+c) / LB)).1+LB ^ (P.length+1) * (DQ P ((p.1+p.2+c) / LB)).2=p.1+LB * AC (P.map Prod.fst)+(p.2+LB * AC (P.map Prod.snd))+c
  have h3:LB ^ (P.length+1) * (DQ P ((p.1+p.2+c) / LB)).2=LB * (LB ^ P.length * (DQ P ((p.1+p.2+c) / LB)).2):=by rw[gG,fe (LB ^ P.length) LB,fk]
  rw[h3]
  have h4:=congrArg (LB * ·) h1
  simp only[fw]at h4
  omega
theorem G3:∀ (P:List (Nat×Nat))(c:Nat),(DQ P c).1.length=P.length
 | [],_=>rfl
 | p::P,c=>by show(DQ P _).1.length+1=P.length+1;rw[G3 P]
theorem Ex:∀ (P:List (Nat×Nat))(c:Nat),BY (DQ P c).1
 | [],_=>fun x hx=>by cases hx
 | p::P,c=>fun x hx=>by
  rcases gg.1 hx with e | e
  ·rw[e];exact fo _ A4
  ·exact Ex P _ x e
def EV:List (Nat×Nat)→Nat→List Nat×Nat
 | [],c=>([],c)
 | p::P,c=>((p.1+LB - p.2 - c) % LB::(EV P (if p.1<p.2+c then 1 else 0)).1,(EV P (if p.1<p.2+c then 1 else 0)).2)
theorem OW:∀ (P:List (Nat×Nat))(c:Nat),(∀p∈P,p.1<LB∧p.2<LB)→c≤1→AC (P.map Prod.fst)+LB ^ P.length * (EV P c).2=AC (EV P c).1+AC (P.map Prod.snd)+c
 | [],c,_,_=>by simp[EV,AC]
 | p::P,c,h,hc=>by
  obtain⟨hp1,hp2⟩:=h p fc
  have hB:LB=4294967296:=rfl
  generalize hd:(if p.1<p.2+c then 1 else 0)=d
  have Og:d≤1:=by rw[← hd];split<;>omega
  have h1:=OW P d (fun q hq=>h q (fh _ hq)) Og
  have h2:(p.1+LB - p.2 - c) % LB+p.2+c=p.1+LB * d:=by
   rw[← hd]
   rw[hB]at hp1 hp2 ⊢
   split<;>omega
  show p.1+LB * AC (P.map Prod.fst)+LB ^ (P.length+1) * (EV P (if p.1<p.2+c then 1 else 0)).2=(p.1+LB - p.2 - c) % LB+LB * AC (EV P (if p.1<p.2+c then 1 else 0)).1+(p.2+LB * AC (P.map Prod.snd))+c
  rw[hd]
  have h3:LB ^ (P.length+1) * (EV P d).2=LB * (LB ^ P.length * (EV P d).2):=by rw[gG,fe (LB ^ P.length) LB,fk]
  rw[h3]
  have h4:=congrArg (LB * ·) h1
  simp only[fw]at h4
  omega
theorem Sy{U V T v1 v2 q g left top u2:Nat}{P:Nat}(hU:U<(top * LB+u2+1) * P)(hV:(v1 * LB+v2) * P≤V)(hq:q * V≤U)(hg:g * v1+left=top)(hgt:left * LB+u2<g * v2):q<g:=by
 rcases fS q g with h | h
 ·exact h
 ·exfalso
  have h1:g * V≤U:=fU (fj V h) hq
  have h2:g * ((v1 * LB+v2) * P)≤U:=fU (fz g hV) h1
  have h3:g * (v1 * LB+v2)=g * v1 * LB+g * v2:=by rw[fw,fk]
  have h4:top * LB=g * v1 * LB+left * LB:=by rw[← hg,fu]
  have h5:top * LB+u2+1≤g * (v1 * LB+v2):=by omega
  have h6:(top * LB+u2+1) * P≤g * (v1 * LB+v2) * P:=fj P h5
  rw[← fk]at h2
  omega
theorem Pe{U V v1 v2 q g left top u2:Nat}{P:Nat}(hP:0<P)(hU:(top * LB+u2) * P≤U)(hV:V<(v1 * LB+v2+1) * P)(hq:U<(q+1) * V)(hg:g * v1+left=top)(hle:g * v2≤left * LB+u2)(hgB:g<LB)(hv1:1≤v1):g≤q+1:=by
 rcases fS (q+1) g with h | h
 ·exfalso
  have h0:q+1≤g - 1:=by omega
  have h1:U<(g - 1) * ((v1 * LB+v2+1) * P):=by
   have a1:(q+1) * V≤(g - 1) * V:=fj V h0
   have a2:(g - 1) * V≤(g - 1) * ((v1 * LB+v2+1) * P):=fz _ (Nat.le_of_lt hV)
   omega
  rw[← fk]at h1
  have h2:(top * LB+u2) * P<(g - 1) * (v1 * LB+v2+1) * P:=gL hU h1
  have h3:top * LB+u2<(g - 1) * (v1 * LB+v2+1):=gi h2
  have h4:top * LB=g * v1 * LB+left * LB:=by rw[← hg,fu]
  have h5:g * (v1 * LB+v2)=g * v1 * LB+g * v2:=by rw[fw,fk]
  have h6:(g - 1) * (v1 * LB+v2+1)=(g - 1) * (v1 * LB+v2)+(g - 1):=by rw[fw,fZ]
  have h7:g * (v1 * LB+v2)=(g - 1) * (v1 * LB+v2)+(v1 * LB+v2):=by
   obtain⟨k,rfl⟩:∃k,g=k+1:=⟨g - 1,by omega⟩
   rw[gv,gA]
  have h8:LB≤v1 * LB:=Nat.le_mul_of_pos_left LB hv1
  omega
 ·exact h
def Bo(q:Nat):List (Nat×Nat)→Nat→Nat→List Nat×Nat×Nat
 | [],c,br=>([],c,br)
 | p::P,c,br =>
  let r:=Bo q P ((c+q * p.2) / LB) (if p.1<(c+q * p.2) % LB+br then 1 else 0)
  ((p.1+LB - (c+q * p.2) % LB - br) % LB::r.1,r.2.1,r.2.2)
theorem Li(q:Nat):∀ (P:List (Nat×Nat))(c br:Nat),(∀p∈P,p.1<LB)→br≤1 →
  AC (P.map Prod.fst)+LB ^ P.length * ((Bo q P c br).2.1+(Bo q P c br).2.2)=AC (Bo q P c br).1+q * AC (P.map Prod.snd)+c+br
 | [],c,br,_,_=>by simp[Bo,AC]
 | p::P,c,br,h,hb=>by
  have hp:=h p fc
  have hB:LB=4294967296:=rfl
  generalize hc1:c+q * p.2=c1
  have hm:c1 % LB<LB:=fo _ A4
  have hdm:=gu c1 LB
  generalize hd:(if p.1<c1 % LB+br then 1 else 0)=d
  have Og:d≤1:=by rw[← hd];split<;>omega
  have ih:=Li q P (c1 / LB) d (fun q hq=>h q (fh _ hq)) Og
  have h2:(p.1+LB - c1 % LB - br) % LB+c1 % LB+br=p.1+LB * d:=by
   rw[← hd]
   generalize c1 % LB=m at hm
   rw[hB]at hp hm ⊢
   split<;>omega
  show p.1+LB * AC (P.map Prod.fst)+LB ^ (P.length+1) * ((Bo q P ((c+q * p.2) / LB) (if p.1<(c+q * p.2) % LB+br then 1 else 0)).2.1+(Bo q P ((c+q * p.2) / LB) (if p.1<(c+q * p.2) % LB+br then 1 else 0)).2.2)=(p.1+LB - (c+q * p.2) % LB - br) % LB+LB * AC (Bo q P ((c+q * p.2) / LB) (if p.1<(c+q * p.2) % LB+br then 1 else 0)).1+q * (p.2+LB * AC (P.map Prod.snd))+c+br
  rw[hc1,hd]
  have h3:∀z,LB ^ (P.length+1) * z=LB * (LB ^ P.length * z):=fun z=>by rw[gG,fe (LB ^ P.length) LB,fk]
  rw[h3]
  have h4:=congrArg (LB * ·) ih
  simp only[fw]at h4 ⊢
  have h5:q * (LB * AC (P.map Prod.snd))=LB * (q * AC (P.map Prod.snd)):=by rw[Nat.mul_left_comm]
  rw[h5]
  omega
def Eg(x:Nat):List (Nat×Nat)→Nat→List Nat×Nat
 | [],c=>([],c)
 | p::P,c=>((c+(x * p.1+p.2)) % LB::(Eg x P ((c+(x * p.1+p.2)) / LB)).1,(Eg x P ((c+(x * p.1+p.2)) / LB)).2)
theorem Nx(x:Nat):∀ (P:List (Nat×Nat))(c:Nat),AC (Eg x P c).1+LB ^ P.length * (Eg x P c).2=x * AC (P.map Prod.fst)+AC (P.map Prod.snd)+c
 | [],c=>by simp[Eg,AC]
 | p::P,c=>by
  have ih:=Nx x P ((c+(x * p.1+p.2)) / LB)
  have hdm:=gu (c+(x * p.1+p.2)) LB
  show(c+(x * p.1+p.2)) % LB+LB * AC (Eg x P ((c+(x * p.1+p.2)) / LB)).1+LB ^ (P.length+1) * (Eg x P ((c+(x * p.1+p.2)) / LB)).2=x * (p.1+LB * AC (P.map Prod.fst))+(p.2+LB * AC (P.map Prod.snd))+c
  have h3:∀z,LB ^ (P.length+1) * z=LB * (LB ^ P.length * z):=fun z=>by rw[gG,fe (LB ^ P.length) LB,fk]
  rw[h3]
  have h4:=congrArg (LB * ·) ih
  simp only[fw]at h4 ⊢
  have h5:x * (LB * AC (P.map Prod.fst))=LB * (x * AC (P.map Prod.fst)):=by rw[Nat.mul_left_comm]
  rw[h5]
  omega
theorem KC(x:Nat):∀ (P:List (Nat×Nat))(c:Nat),(Eg x P c).1.length=P.length
 | [],_=>rfl
 | p::P,c=>by show(Eg x P _).1.length+1=P.length+1;rw[KC x P]
theorem Gp{x:Nat}(hx:x<LB):∀ {P:List (Nat×Nat)}{c:Nat},(∀p∈P,p.1<LB∧p.2<LB)→c<LB→(Eg x P c).2<LB∧BY (Eg x P c).1
 | [],c,_,hc=>⟨hc,fun y hy=>by cases hy⟩
 | p::P,c,h,hc=>by
  obtain⟨h1,h2⟩:=h p fc
  have hd:(c+(x * p.1+p.2)) / LB<LB:=by
   rw[gF A4]
   have:x * p.1≤(LB - 1) * (LB - 1):=gW (by omega) (by omega)
   have hB:LB=4294967296:=rfl
   rw[hB]at this hc h2 ⊢
   omega
  obtain⟨i1,i2⟩:=Gp (P:=P) (c:=(c+(x * p.1+p.2)) / LB) hx (fun r hr=>h r (fh _ hr)) hd
  refine⟨i1,fun y hy=>?_⟩
  rcases gg.1 hy with e | e
  ·rw[e];exact fo _ A4
  ·exact i2 y e
def A2(x:Nat):List Nat→List Nat×Nat
 | []=>([],0)
 | y::l=>(((A2 x l).2 * LB+y) / x::(A2 x l).1,((A2 x l).2 * LB+y) % x)
theorem Cl{x:Nat}(hx:0<x):∀l:List Nat,AC l=x * AC (A2 x l).1+(A2 x l).2∧(A2 x l).2<x∧(A2 x l).1.length=l.length
 | []=>⟨by simp[A2,AC],hx,rfl⟩
 | y::l=>by
  obtain⟨i1,i2,i3⟩:=Cl hx l
  have hdm:=gu ((A2 x l).2 * LB+y) x
  refine⟨?_,fo _ hx,by show(A2 x l).1.length+1=l.length+1;rw[i3]⟩
  show y+LB * AC l=x * (((A2 x l).2 * LB+y) / x+LB * AC (A2 x l).1)+((A2 x l).2 * LB+y) % x
  rw[i1]
  simp only[fw]
  have h5:x * (LB * AC (A2 x l).1)=LB * (x * AC (A2 x l).1):=by rw[Nat.mul_left_comm]
  have h6:LB * (A2 x l).2=(A2 x l).2 * LB:=fe _ _
  rw[h5,h6]
  omega
theorem Dt{x:Nat}(hx:0<x):∀ {l:List Nat},BY l→BY (A2 x l).1
 | [],_=>fun y hy=>by cases hy
 | y::l,h=>by
  obtain⟨i1,i2,i3⟩:=Cl hx l
  have hy:=h y fc
  intro z hz
  rcases gg.1 hz with e | e
  ·rw[e,gF hx]
   have:((A2 x l).2+1) * LB≤x * LB:=fj LB i2
   rw[gA]at this
   rw[fe LB x]
   omega
  ·exact Dt hx h.tail z e
theorem TZ{U V g D N br:Nat}(hV:0<V)(h1:U / V≤g)(h2:g≤U / V+1)(hD:D<N)(hbr:br≤1)(he:U+N * br=D+g * V):
  (br=0→g=U / V∧D=U % V)∧(br=1→g=U / V+1∧D+V=N+U % V):=by
 have hdm:=Nat.div_add_mod U V
 have hlt:=fo U hV
 have hc:V * (U / V)=U / V * V:=fe _ _
 generalize hq:U / V=q at *
 generalize U % V=r at *
 refine⟨fun h0=>?_,fun h0=>?_⟩
 ·subst h0
  rcases fS q g with h | h
  ·exfalso
   have:g=q+1:=by omega
   rw[this,gA]at he
   omega
  ·have:g=q:=by omega
   refine⟨this,?_⟩
   rw[this]at he
   omega
 ·subst h0
  rcases fS q g with h | h
  ·have:g=q+1:=by omega
   refine⟨this,?_⟩
   rw[this,gA]at he
   omega
  ·exfalso
   have:g=q:=by omega
   rw[this]at he
   omega
theorem PZ{V Q R u:Nat}{W:Nat}(hV:0<V)(hR:R<V)(hW:W=Q * V+R):(W * LB+u) / V=Q * LB+(R * LB+u) / V∧(W * LB+u) % V=(R * LB+u) % V:=by
 have e:W * LB+u=(R * LB+u)+V * (Q * LB):=by
  rw[hW,fu,fk,Nat.mul_left_comm]
  omega
 rw[e]
 constructor
 ·rw[Nat.add_mul_div_left _ _ hV];omega
 ·rw[Nat.add_mul_mod_self_left]
end
end Go.Proofs.YtdmgdlbodeemeaaGreatDoor.Am
set_option linter.unusedVariables false
set_option linter.unusedSimpArgs false
namespace Go.Proofs.YtdmgdlbodeemeaaGreatDoor.Am
noncomputable section
theorem BY.append{a b:List Nat}(ha:BY a)(hb:BY b):BY (a++b):=fun x hx=>(List.mem_append.1 hx).elim (ha x) (hb x)
theorem HS(lo:List Nat)(x y:Nat):AC (lo++[x,y])=AC lo+LB ^ lo.length * (y * LB+x):=by
 rw[BA]
 show _+_ * (x+LB * (y+LB * 0))=_
 rw[gM,fi,fe LB y,Nat.add_comm x]
theorem J9(lo:List Nat)(x y z:Nat):AC (lo++[x,y,z])=AC lo+LB ^ lo.length * ((z * LB+y) * LB+x):=by
 rw[BA]
 show _+_ * (x+LB * (y+LB * (z+LB * 0)))=_
 have:x+LB * (y+LB * (z+LB * 0))=(z * LB+y) * LB+x:=by
  rw[gM,fi,fe LB z,Nat.add_comm y,fe LB,Nat.add_comm x]
 rw[this]
structure FT(plo vlo:List Nat)(u2 u1 u0 v2 v1:Nat)(g left:Nat):Prop where
 len:plo.length=vlo.length
 sp:BY plo
 sv:BY vlo
 b2:u2<LB
 b1:u1<LB
 c2:v2<LB
 c1:v1<LB
 big:LB≤2 * v1
 lt:AC (plo++[u2,u1,u0])<AC (vlo++[v2,v1]) * LB
 sum:g * v1+left=u0 * LB+u1
 low:AC (plo++[u2,u1,u0]) / AC (vlo++[v2,v1])≤g
section
variable{plo vlo:List Nat}{u2 u1 u0 v2 v1 g left:Nat}
theorem FT.v_pos(h:FT plo vlo u2 u1 u0 v2 v1 g left):0<AC (vlo++[v2,v1]):=by
 rw[HS]
 have h1:=h.big
 have:LB=4294967296:=rfl
 have h2:0<v1 * LB+v2:=by have:=Nat.mul_pos (show 0<v1 by omega) A4;omega
 have:=Nat.mul_pos (gN A4 (n:=vlo.length)) h2
 omega
theorem FT.bounds(h:FT plo vlo u2 u1 u0 v2 v1 g left):
  AC (plo++[u2,u1,u0])<((u0 * LB+u1) * LB+u2+1) * LB ^ vlo.length∧((u0 * LB+u1) * LB+u2) * LB ^ vlo.length≤AC (plo++[u2,u1,u0]) ∧
  AC (vlo++[v2,v1])<(v1 * LB+v2+1) * LB ^ vlo.length∧(v1 * LB+v2) * LB ^ vlo.length≤AC (vlo++[v2,v1]):=by
 have h1:=CE h.sp
 have h2:=CE h.sv
 rw[h.len]at h1
 rw[J9,HS,h.len]
 generalize LB ^ vlo.length=P at *
 generalize (u0 * LB+u1) * LB+u2=X
 generalize v1 * LB+v2=Y
 have e1:(X+1) * P=P * X+P:=by rw[gA,fe]
 have e2:(Y+1) * P=P * Y+P:=by rw[gA,fe]
 have e3:X * P=P * X:=fe _ _
 have e4:Y * P=P * Y:=fe _ _
 omega
theorem FT.start(len:plo.length=vlo.length)(sp:BY plo)(sv:BY vlo)(b2:u2<LB)(b1:u1<LB)(c2:v2<LB)(c1:v1<LB)(big:LB≤2 * v1)
  (lt:AC (plo++[u2,u1,u0])<AC (vlo++[v2,v1]) * LB):FT plo vlo u2 u1 u0 v2 v1 ((u0 * LB+u1) / v1) ((u0 * LB+u1) % v1):=by
 have hB:LB=4294967296:=rfl
 have hv1:0<v1:=by omega
 have hs:(u0 * LB+u1) / v1 * v1+(u0 * LB+u1) % v1=u0 * LB+u1:=by rw[fe];exact Nat.div_add_mod _ _
 have h0:FT plo vlo u2 u1 u0 v2 v1 (AC (plo++[u2,u1,u0]) / AC (vlo++[v2,v1])) (u0 * LB+u1 - AC (plo++[u2,u1,u0]) / AC (vlo++[v2,v1]) * v1)∨True:=.inr trivial
 refine⟨len,sp,sv,b2,b1,c2,c1,big,lt,hs,?_⟩
 have hP:0<LB ^ vlo.length:=gN A4
 have h1:=CE sp
 rw[len]at h1
 have hV:v1 * LB * LB ^ vlo.length≤AC (vlo++[v2,v1]):=by
  rw[HS,fe (v1 * LB),fw]
  omega
 rw[Nat.le_div_iff_mul_le hv1]
 generalize hq:AC (plo++[u2,u1,u0]) / AC (vlo++[v2,v1])=q
 have hqV:q * AC (vlo++[v2,v1])≤AC (plo++[u2,u1,u0]):=by rw[← hq];exact Nat.div_mul_le_self _ _
 have h2:q * (v1 * LB * LB ^ vlo.length)≤AC (plo++[u2,u1,u0]):=fU (fz q hV) hqV
 have h3:AC (plo++[u2,u1,u0])<((u0 * LB+u1) * LB+LB) * LB ^ vlo.length:=by
  rw[J9,len]
  have h4:(u0 * LB+u1) * LB+u2+1≤(u0 * LB+u1) * LB+LB:=by omega
  have h5:=fj (LB ^ vlo.length) h4
  rw[gA,fe _ (LB ^ vlo.length)]at h5
  omega
 have h6:q * v1 * LB * LB ^ vlo.length<((u0 * LB+u1) * LB+LB) * LB ^ vlo.length:=by
  have e:q * (v1 * LB * LB ^ vlo.length)=q * v1 * LB * LB ^ vlo.length:=by rw[fk,fk,fk]
  omega
 have h7:q * v1 * LB<(u0 * LB+u1) * LB+LB:=gi h6
 have h8:q * v1 * LB<(u0 * LB+u1+1) * LB:=by rw[gA];exact h7
 have:=gi h8
 omega
theorem FT.dec(h:FT plo vlo u2 u1 u0 v2 v1 g left)(hc:LB≤g∨left * LB+u2<g * v2):1≤g∧FT plo vlo u2 u1 u0 v2 v1 (g - 1) (left+v1):=by
 obtain⟨b1,b2,b3,b4⟩:=h.bounds
 have hlt:AC (plo++[u2,u1,u0]) / AC (vlo++[v2,v1])<g:=by
  rcases hc with hc | hc
  ·exact fV ((gF h.v_pos).2 (by rw[fe];exact h.lt)) hc
  ·exact Sy (T:=0) b1 b4 (Nat.div_mul_le_self _ _) h.sum hc
 have hle:AC (plo++[u2,u1,u0]) / AC (vlo++[v2,v1])≤g - 1:=Nat.le_sub_one_of_lt hlt
 have hg1:1≤g:=gL (fa _) hlt
 refine⟨hg1,⟨h.len,h.sp,h.sv,h.b2,h.b1,h.c2,h.c1,h.big,h.lt,?_,hle⟩⟩
 clear hle hlt b1 b2 b3 b4
 obtain⟨k,rfl⟩:∃k,g=k+1:=⟨g - 1,by omega⟩
 have:=h.sum
 rw[gA]at this
 rw[gv]
 omega
theorem FT.done(h:FT plo vlo u2 u1 u0 v2 v1 g left)(hg:g<LB)(hc:g * v2≤left * LB+u2):g≤AC (plo++[u2,u1,u0]) / AC (vlo++[v2,v1])+1:=by
 obtain⟨b1,b2,b3,b4⟩:=h.bounds
 have hq:AC (plo++[u2,u1,u0])<(AC (plo++[u2,u1,u0]) / AC (vlo++[v2,v1])+1) * AC (vlo++[v2,v1]):=by
  have:=Nat.div_add_mod (AC (plo++[u2,u1,u0])) (AC (vlo++[v2,v1]))
  have h2:=fo (AC (plo++[u2,u1,u0])) h.v_pos
  rw[gA,fe]
  omega
 have hv1:1≤v1:=by have:=h.big;have:LB=4294967296:=rfl;omega
 exact Pe (gN A4) b2 b3 hq h.sum hc hg hv1
theorem FT.top(h:FT plo vlo u2 u1 u0 v2 v1 g left):u0≤v1:=by
 obtain⟨b1,b2,b3,b4⟩:=h.bounds
 have hP:0<LB ^ vlo.length:=gN A4
 have h1:((u0 * LB+u1) * LB+u2) * LB ^ vlo.length<(v1 * LB+v2+1) * LB ^ vlo.length * LB:=by
  have:=h.lt
  have h2:AC (vlo++[v2,v1]) * LB≤(v1 * LB+v2+1) * LB ^ vlo.length * LB:=fj LB (Nat.le_of_lt b3)
  omega
 have h3:(v1 * LB+v2+1) * LB ^ vlo.length * LB=(v1 * LB+v2+1) * LB * LB ^ vlo.length:=by rw[fk,fe (LB ^ _),← fk]
 rw[h3]at h1
 have h4:=gi h1
 have h5:(v1 * LB+v2+1) * LB≤(v1+1) * LB * LB:=fj LB (by rw[gA];have:=h.c2;omega)
 have h6:u0 * LB * LB≤(u0 * LB+u1) * LB:=fj LB (by omega)
 have h7:u0 * LB * LB<(v1+1) * LB * LB:=by omega
 have h8:=gi (gi h7)
 omega
end
theorem Hl{q:Nat}(hq:q<LB){x:Nat}:∀ {P:List (Nat×Nat)}{c br:Nat},(∀p∈P,p.2<LB)→c<LB→(Bo q (P++[(x,0)]) c br).2.1=0
 | [],c,br,_,hc=>by
  show(c+q * 0) / LB=0
  rw[gM,fi,gT hc]
 | p::P,c,br,h,hc=>by
  have hp:=h p fc
  have hd:(c+q * p.2) / LB<LB:=by
   rw[gF A4]
   have:q * p.2≤(LB - 1) * (LB - 1):=gW (by omega) (by omega)
   have hB:LB=4294967296:=rfl
   rw[hB]at this hc ⊢
   omega
  exact Hl (P:=P) (c:=(c+q * p.2) / LB) hq (fun r hr=>h r (fh _ hr)) hd
theorem F3(q:Nat):∀ (P:List (Nat×Nat))(c br:Nat),BY (Bo q P c br).1
 | [],_,_=>fun x hx=>by cases hx
 | p::P,c,br=>fun x hx=>by
  rcases gg.1 hx with e | e
  ·rw[e];exact fo _ A4
  ·exact F3 q P _ _ x e
theorem IN(q:Nat):∀ (P:List (Nat×Nat))(c br:Nat),(Bo q P c br).1.length=P.length
 | [],_,_=>rfl
 | p::P,c,br=>by show(Bo q P _ _).1.length+1=P.length+1;rw[IN q P]
theorem OZ(q:Nat):∀ (P:List (Nat×Nat))(c br:Nat),br≤1→(Bo q P c br).2.2≤1
 | [],_,_,h=>h
 | p::P,c,br,h=>OZ q P _ _ (by split<;>omega)
theorem M9{a b:List Nat}(h:a.length=b.length):(a.zip b).map Prod.fst=a:=by
 rw[List.map_fst_zip];omega
theorem NA{a b:List Nat}(h:a.length=b.length):(a.zip b).map Prod.snd=b:=by
 rw[List.map_snd_zip];omega
theorem LM(v:List Nat):AC (v++[0])=AC v:=by
 rw[BA]
 show _+_ * (0+LB * 0)=_
 simp
theorem XI       {p v : List Nat} (hl : p.length = v.length + 1) (hp : BY  p) (hv : BY  v) (hV : 0 < AC   v) {g : Nat} (h1 : AC   p / AC   v ≤ g) (h2 : g ≤ AC   p / AC   v + 1) (hg : g < LB) :
    ((Bo g (p.zip (v++[0])) 0 0).2.2=0→g=AC p / AC v∧AC (Bo g (p.zip (v++[0])) 0 0).1=AC p % AC v) ∧
    ((Bo g (p.zip (v++[0])) 0 0).2.2≠0→g=AC p / AC v+1∧AC (DQ ((Bo g (p.zip (v++[0])) 0 0).1.zip (v++[0])) 0).1=AC p % AC v):=by
  have hlz:p.length=(v++[0]).length:=by rw[fg];exact hl
  have hsm:∀q∈p.zip (v++[0]),q.1<LB∧q.2<LB:=fun q hq=>by
    have hz:=List.of_mem_zip (a:=q.1) (b:=q.2) hq
    refine⟨hp _ hz.1,?_⟩
    rcases List.mem_append.1 hz.2 with h | h
    · exact hv _ h
    · rw[List.mem_singleton.1 h];exact A4
  have hc:(Bo g (p.zip (v++[0])) 0 0).2.1=0:=by
    obtain⟨pl,x,rfl⟩:∃pl x,p=pl++[x]:=by
      rcases List.eq_nil_or_concat p with h | ⟨pl,x,h⟩
      · rw[h]at hl;simp at hl
      · exact⟨pl,x,by rw[h];simp⟩
    have hpl:pl.length=v.length:=by rw[fg]at hl;simpa using hl
    rw[List.zip_append hpl]
    exact Hl hg (fun q hq=>hv _ (List.of_mem_zip (a:=q.1) (b:=q.2) hq).2) A4
  have hval:=Li g (p.zip (v++[0])) 0 0 (fun q hq=>(hsm q hq).1) (fa _)
  have hbr:=OZ g (p.zip (v++[0])) 0 0 (fa _)
  have hlen:(p.zip (v++[0])).length=v.length+1:=by rw[gj,← hlz,Nat.min_self,hl]
  have hDl:=IN g (p.zip (v++[0])) 0 0
  have hDs:=F3 g (p.zip (v++[0])) 0 0
  rw[M9 hlz,NA hlz,LM,hc,hlen]at hval
  generalize Bo g (p.zip (v++[0])) 0 0=T at *
  obtain⟨D,c,br⟩:=T
  simp only at *
  rw[hlen]at hDl
  have hD:=CE hDs
  rw[hDl]at hD
  have hVl:=CE hv
  have hPow:LB ^ v.length≤LB ^ (v.length+1):=gX A4 (gD _)
  have key:=TZ (U:=AC p) (V:=AC v) (g:=g) (D:=AC D) (N:=LB ^ (v.length+1)) (br:=br) hV h1 h2 hD hbr (by
    generalize g * AC v=z at *
    generalize LB ^ (v.length+1)=N at *
    rw[fY]at hval
    omega)
  refine⟨fun h=>key.1 h,fun h=>?_⟩
  have hb1:br=1:=by omega
  obtain⟨k1,k2⟩:=key.2 hb1
  refine⟨k1,?_⟩
  have hlz2:D.length=(v++[0]).length:=by rw[fg,hDl];rfl
  have ha:=JO (D.zip (v++[0])) 0
  rw[M9 hlz2,NA hlz2,LM,gj,← hlz2,Nat.min_self,hDl]at ha
  have hs:=CE (Ex (D.zip (v++[0])) 0)
  rw[G3,gj,← hlz2,Nat.min_self,hDl]at hs
  have hr:=fo (AC p) hV
  generalize AC (DQ (D.zip (v++[0])) 0).1=O at *
  generalize (DQ (D.zip (v++[0])) 0).2=c2 at *
  generalize hN:LB ^ (v.length+1)=N at *
  have hc2:c2=1:=by
    rcases fS c2 1 with h | h
    · have:c2=0:=by omega
      rw[this,gM]at ha
      omega
    · rcases fS           1 c2 with h' | h'
      · have:=fz N h'
        omega
      · omega
  rw[hc2,fZ]at ha
  omega
structure Oh(u0 v cu qs:List Nat)(i:Nat):Prop where
 len:cu.length=u0.length
 low:cu.take i=u0.take i
 sm:BY cu
 rem:AC (cu.drop i)=AC (u0.drop i) % AC v
 qsm:BY qs
 quo:AC (qs.drop i)=AC (u0.drop i) / AC v
theorem Eb{l:List Nat}{i x:Nat}(h:l[i]? = some x):AC (l.drop i)=x+LB * AC (l.drop (i+1)):=by
 have hi:i<l.length:=by
  rcases fS i l.length with h' | h'
  ·exact h'
  ·rw[ff h']at h;cases h
 rw[gE hi]
 have:l[i]=x:=by rw[fX hi]at h;exact Option.some.inj h
 rw[this];rfl
theorem BY.drop{l:List Nat}(h:BY l)(i:Nat):BY (l.drop i):=fun x hx=>h x (List.mem_of_mem_drop hx)
theorem BY.take{l:List Nat}(h:BY l)(i:Nat):BY (l.take i):=fun x hx=>h x (List.mem_of_mem_take hx)
theorem Oh.part{u0 v cu qs:List Nat}{i:Nat}(h:Oh u0 v cu qs (i+1))(hv:BY v)(hV:0<AC v)(hi:i+v.length+1≤cu.length):
  AC ((cu.drop i).take (v.length+1))=AC (cu.drop i)∧AC (cu.drop i)<AC v * LB∧AC (cu.drop (i+v.length+1))=0:=by
 have hx:cu[i]? = some cu[i]:=fX (by omega)
 generalize cu[i]=x at hx
 have hxs:=h.sm x (fv hx)
 have e1:=Eb hx
 have hr:=fo (AC (u0.drop (i+1))) hV
 rw[← h.rem]at hr
 have hVl:=CE hv
 have hsplit:cu.drop (i+1)=(cu.drop (i+1)).take v.length++cu.drop (i+v.length+1):=by
  have:=(gw v.length (cu.drop (i+1))).symm
  rw[gY]at this
  rw[show i+v.length+1=i+1+v.length by omega]
  exact this
 have hval:=congrArg AC hsplit
 rw[BA]at hval
 have htl:((cu.drop (i+1)).take v.length).length=v.length:=by rw[fx,gP];omega
 rw[htl]at hval
 have hz:AC (cu.drop (i+v.length+1))=0:=by
  rcases gO (AC (cu.drop (i+v.length+1)))with h0 | h0
  ·exact h0
  ·exfalso
   have:=fz (LB ^ v.length) h0
   omega
 refine⟨?_,?_,hz⟩
 ·rw[e1]
  have hd:cu.drop i=x::cu.drop (i+1):=by
   rw[gE (show i<cu.length by omega)]
   have:cu[i]=x:=by rw[fX (by omega)]at hx;exact Option.some.inj hx
   rw[this]
  rw[hd,List.take_succ_cons]
  show x+LB * _=_
  rw[hval,hz]
  simp
 ·rw[e1]
  have:LB * (AC (cu.drop (i+1))+1)≤LB * AC v:=fz LB hr
  rw[fe (AC v)]
  rw[fw]at this
  omega
theorem Oh.step{u0 v cu qs:List Nat}{i:Nat}(h:Oh u0 v cu qs (i+1))(hv:BY v)(hV:0<AC v)(hi:i+v.length+1≤cu.length)(hq:i<qs.length){D:List Nat}(hD:D.length=v.length+1)(hDs:BY D)
  (hDv:AC D=AC ((cu.drop i).take (v.length+1)) % AC v) {x:Nat} (hx:x=AC ((cu.drop i).take (v.length+1)) / AC v):Oh u0 v (cu.take i++D++cu.drop (i+v.length+1)) (qs.set i x) i:=by
 obtain⟨p1,p2,p3⟩:=h.part hv hV hi
 rw[p1]at hDv hx
 have hu:cu[i]? = some cu[i]:=fX (by omega)
 generalize cu[i]=y at hu
 have hys:=h.sm y (fv hu)
 have hu0:u0[i]? = some y:=by
  have:=congrArg (fun l=>l[i]?) h.low
  simp only[gx (show i<i+1 by omega)]at this
  rw[← this];exact hu
 have e1:=Eb hu
 have e2:=Eb hu0
 have hR:=fo (AC (u0.drop (i+1))) hV
 have hW:AC (u0.drop (i+1))=AC (u0.drop (i+1)) / AC v * AC v+AC (u0.drop (i+1)) % AC v:=by
  have:=Nat.div_add_mod (AC (u0.drop (i+1))) (AC v)
  rw[fe]at this
  exact this.symm
 have hds:=PZ (V:=AC v) (Q:=AC (u0.drop (i+1)) / AC v) (R:=AC (u0.drop (i+1)) % AC v) (u:=y) hV hR hW
 rw[← h.rem]at hds
 have e3:AC (u0.drop (i+1)) * LB+y=AC (u0.drop i):=by rw[e2,fe];omega
 have e4:AC (cu.drop (i+1)) * LB+y=AC (cu.drop i):=by rw[e1,fe];omega
 rw[e3,e4]at hds
 have htl:(cu.take i).length=i:=by rw[fx];omega
 have hxs:x<LB:=by
  rw[hx,gF hV,fe]
  exact p2
 refine⟨?_,?_,?_,?_,?_,?_⟩
 ·simp only[fg,fx,gP,hD]
  have:=h.len
  omega
 ·rw[ft,List.take_left' htl]
  have:=congrArg (List.take i) h.low
  rw[List.take_take,List.take_take,gZ (gD i)]at this
  exact this
 ·exact((h.sm.take i).append hDs).append (h.sm.drop _)
 ·rw[ft,List.drop_left' htl,BA,p3,gM,fi,hDv]
  exact hds.2.symm
 ·intro z hz
  rcases List.mem_or_eq_of_mem_set hz with h' | h'
  ·exact h.qsm z h'
  ·rw[h'];exact hxs
 ·have hqi:(qs.set i x)[i]? = some x:=by rw[gy hq]
  rw[Eb hqi]
  have:(qs.set i x).drop (i+1)=qs.drop (i+1):=by
   rw[List.drop_set]
   simp
  rw[this,h.quo,hx,hds.1,fe LB]
  omega
end
end Go.Proofs.YtdmgdlbodeemeaaGreatDoor.Am
