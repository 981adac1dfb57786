/- The memory of what a trace has learned; what the program's states does, round by round; conditions: short plain clauses, few lines. -/
import Derived.Test.YtilhhmkdcoajnaaAmM32
import Derived.WideKeyArgs
import Derived.Test.YtilhhmkdcoajnaaAmSatCode
set_option linter.unusedVariables false
set_option linter.unusedSimpArgs false
namespace Go.Proofs.Ytilhhmkdcoajnaa.Am
open Go Go.Proofs
noncomputable section
def TraceAt(b:Nat)(s:ASt)(v:AV)(T:Trace20):Prop:=∃a cap,v=.slice a T.length cap∧∀k d L,T[k]? = some (d,L) →
  ∃i o u,a=some (i,o)∧i<b∧load1 s i (o+k * 2)=some (.bool d)∧load1 s i (o+k * 2+1)=some u∧SliceAt b s u (ivs L)
theorem TraceAt.old{b b':Nat}{s s':ASt}{v:AV}{T:Trace20}(h:TraceAt b s v T)(k:Old b' s s')(hb:b≤b'):TraceAt b s' v T:=by
  obtain⟨a,cap,hv,hc⟩:=h
  refine⟨a,cap,hv,fun j d L hj=>?_⟩
  obtain⟨i,o,u,h1,h2,h3,h4,h5⟩:=hc j d L hj
  exact⟨i,o,u,h1,h2,by rw[load1_eq (k.2 i (by omega))];exact h3,by rw[load1_eq (k.2 i (by omega))];exact h4,h5.old k hb⟩
theorem load_two{s:ASt}{i o:Nat}{c0 c1:AV}(h0:load1 s i o=some c0)(h1:load1 s i (o+1)=some c1):loadN s i o 2=some [c0,c1]:=by
  unfold load1 at h0 h1
  cases hr:rowAt s i with
  | none=>rw[hr]at h0;cases h0
  | some r =>
    rw[hr]at h0 h1
    simp only[Option.bind_some]at h0 h1
    obtain⟨g0,h0⟩:=guardB_some h0
    obtain⟨g1,h1⟩:=guardB_some h1
    have hlt:o+1<r.n:=by simpa[Nat.blt_eq]using g1
    simp[loadN,hr,guardB,ble_of (show o+2≤r.n by omega),Tree.take,h0,h1]
def Lit(x:Int):Prop:=x≠0∧-9223372036854775808<x∧x<9223372036854775808
theorem co5:Try.prog.cellsOf 5=1:=by kernel_rfl
section
variable{H:Type}{enc:TypeId×Value→H}{w:World}{held:Bool}
theorem wf_u8{n:Int}(h:(Lit.int .u8 n).wf=true):u8 n:=by
  simp only[Lit.wf,Bool.and_eq_true,decide_eq_true_eq]at h
  exact h
theorem wf_i64{n:Int}(h:(Lit.int .i64 n).wf=true):i64 n:=by
  simp only[Lit.wf,Bool.and_eq_true,decide_eq_true_eq]at h
  have h1:-9223372036854775808≤n:=h.1
  have h2:n≤9223372036854775807:=h.2
  exact⟨h1,by omega⟩
def pNum(f:Int→AV)(q:Int→Prop)(_:ASt)(us:List AV)(x:Int):Prop:=us=[f x]∧q x
theorem pNum_old(f:Int→AV)(q:Int→Prop)(s s':ASt)(us:List AV)(x:Int)(h:pNum f q s us x)(_:Old s.next s s'):pNum f q s' us x:=h
theorem enter_num{t:TypeId}{k:IntKind}(ht:Try.prog.underlying t=some (.int k)){q:Int→Prop}(hq:∀n,(Lit.int k n).wf=true→q n)(n:Nat)(cs:List Value)(y:DataW H×List MemPlace)
    (h:DataW.trod enc Try.prog w 0 (fun _=>true) held n t cs=some y) (ρ:Rho) (s:ASt) (hd:Door Try.prog w ρ s):Enter Try.prog w (pNum (fun n=>.int k n) q) cs ρ s:=by
  obtain⟨m,rfl,_,h3⟩:=DataW.trod_int ht h
  exact⟨ρ,s,[.int k m],m,hd,Rho.le_refl ρ,Old.refl _ _,.cons (.int k m) .nil,rfl,hq m h3⟩
theorem enter_nums{t e:TypeId}{k:IntKind}(ht:Try.prog.underlying t=some (.slice e))(he:Try.prog.underlying e=some (.int k))(hc:Try.prog.cellsOf e=1){q:Int→Prop}(hq:∀n,(Lit.int k n).wf=true→q n){n:Nat}{cs:List Value}{y:DataW H×List MemPlace}
    (h:DataW.trod enc Try.prog w 0 (fun _=>true) held n t cs=some y) (hw:∀a,cs=[.slice (some a) 0 0]→0<w.heap.size) {ρ:Rho} {s:ASt} (hd:Door Try.prog w ρ s):Enter Try.prog w (SliceIn (pNum (fun n=>.int k n) q) 1) cs ρ s:=
  enter_slice (pNum_old _ _) ht hc (by decide) (fun _ n cs y h _=>enter_num he hq n cs y h) h hw hd
theorem sliceIn_at{f:Int→AV}{q:Int→Prop}{s:ASt}{us:List AV}{L:List Int}(h:SliceIn (pNum f q) 1 s us L):∃u,us=[u]∧SliceAt s.next s u (L.map f)∧(∀x∈L,q x)∧L.length<9223372036854775808:=by
  obtain⟨a,cap,rfl,hl,hcap,h2⟩:=h
  have hm:maxLen=9223372036854775807:=rfl
  refine⟨_,rfl,⟨a,cap,by rw[List.length_map],fun k u hk=>?_⟩,fun x hx=>?_,by omega⟩
  · rw[List.getElem?_map]at hk
    cases hx:L[k]? with
    | none=>rw[hx]at hk;cases hk
    | some x =>
      rw[hx]at hk
      injection hk with hk
      subst hk
      obtain⟨i,o,vs,g1,g2,g3,g4,g5,g6⟩:=h2 k x hx
      subst g5
      exact⟨i,o,g1,g2,by simpa using g4 0 (f x) rfl⟩
  · obtain ⟨k, hk⟩ := List.mem_iff_getElem?.1 hx
    obtain⟨i,o,vs,g1,g2,g3,g4,g5,g6⟩:=h2 k x hk
    exact g6
set_option maxRecDepth 16000
theorem size_pos{t e:TypeId}(ht:Try.prog.underlying t=some (.slice e)){W:World}{base:Nat}{v:Value}(h:Value.okWide Try.prog W .any base t v)(a:Addr)(ha:v.cells.toList=[.slice (some a) 0 0]):0<W.heap.size:=by
  have hv:v=.slice (some a) 0 0:=by
    cases v with
    | agg cs =>
      simp[Value.okWide,ht,Cell.okWide,Cell.ok]at h
    | _ =>
      simp[Value.cells]at ha
      try (obtain⟨e1,e2,e3⟩:=ha;rw[e1,e2,e3])
  subst hv
  simp only[Value.okWide,ht,Cell.okWide,Cell.ok]at h
  obtain⟨_,_,_,_,row,cells,hs,_⟩:=h
  unfold World.shape? at hs
  cases hb:W.heap[a.block]? with
  | none=>rw[hb]at hs;cases hs
  | some o =>
    rcases Nat.lt_or_ge a.block W.heap.size with h' | h'
    · omega
    · rw[Array.getElem?_eq_none h']at hb;cases hb
end
end
end Go.Proofs.Ytilhhmkdcoajnaa.Am
set_option linter.unusedVariables false
set_option linter.unusedSimpArgs false
set_option maxRecDepth 16000
namespace Go.Proofs.Ytilhhmkdcoajnaa.Am
open Go Go.Proofs
noncomputable section
theorem call_true{W:World}{ρ:Rho}{s:ASt}{f:FuncId}{xs:List AV}{args:Array Value}(hd:Door Try.prog W ρ s)(ha:VRels ρ xs args.toList)(h:WF envW f xs (fun r _=>r=.bool true) s):
    Calls Try.prog f args W fun e W'=>e=.returned (.bool true)∧Kept W W':=by
  obtain⟨n,p,h1,h2⟩:=h
  have:=((sim orders20 (noCount_of noCount20) rfl natW_ok n).call ρ s W f xs p.1 p.2 args h1 hd.inv hd.fresh ha).2
  refine callsIn_wide.1 (CallsIn.mono this ?_)
  intro e w' he
  cases e with
  | panicked c=>exact he.elim
  | outgrown=>exact he.elim
  | returned v' =>
    obtain⟨ρ',k1,k2,k3⟩:=he
    rw[h2]at k1
    cases k1
    exact⟨rfl,kept_of k3 hd.notOwned⟩
theorem arg_rel{t e:TypeId}(ht:Try.prog.underlying t=some (.slice e)){W:World}{base:Nat}{v:Value}(h:Value.okWide Try.prog W .any base t v){ρ:Rho}{a:AV}(hr:VRels ρ [a] v.cells.toList):VRel ρ a v:=by
  have hv:v.cells.toList=[v]:=by
    cases v with
    | agg cs=>simp[Value.okWide,ht,Cell.okWide,Cell.ok]at h
    | _=>rfl
  rw[hv]at hr
  cases hr with
  | cons h _=>exact h
theorem reads_again{H:Type}{enc:TypeId×Value→H}{P:Program}{t:TypeId}(hl:laidOutB P=true)(hr:P.readableRec t=true)(hrow:t<P.types.size){W W':World}{v:Value}{d:DataW H}{ps:List MemPlace}{sp:Nat→Bool}
    (h:DataW.Trod enc P W 0 (fun _=>true) true t v d ps) (hk:Kept W W') (hlt:∀x∈ps,x.block<W.heap.size) (hs:∀x∈ps,sp x.block=true):DataW.Trod enc P W' 0 sp true t v d ps:=
  WideElems.Trod_stays hl hr hrow h (fun x hx=>by
    have:=hlt x hx
    cases x with
    | cell b o=>exact World.cell?_of_block (w:=W) (hk.heap b this)
    | map b=>exact hk.heap b this) hs
abbrev Tag:=Nat×Nat×Nat
abbrev Ow:=Nat→Tag
structure Step(m:Tag→Prop)(ow:Ow)(s:ASt)(ow':Ow)(s':ASt):Prop where
  next:s.next≤s'.next
  tags:∀x,x<s.next→¬ m (ow x)→ow' x=ow x
  heap:∀x,x<s.next→¬ m (ow x)→s'.heap.get x=s.heap.get x
theorem Step.refl(m:Tag→Prop)(ow:Ow)(s:ASt):Step m ow s ow s:=⟨Nat.le_refl _,fun _ _ _=>rfl,fun _ _ _=>rfl⟩
theorem Step.trans{m:Tag→Prop}{ow ow1 ow2:Ow}{s s1 s2:ASt}(h:Step m ow s ow1 s1)(k:Step m ow1 s1 ow2 s2):Step m ow s ow2 s2:=by
  have h1:=h.next
  refine⟨Nat.le_trans h.next k.next,fun x hx hm=>(k.tags x (by omega) (by rw[h.tags x hx hm];exact hm)).trans (h.tags x hx hm),fun x hx hm=>?_⟩
  rw[k.heap x (by omega) (by rw[h.tags x hx hm];exact hm),h.heap x hx hm]
theorem Step.mono{m m':Tag→Prop}{ow ow':Ow}{s s':ASt}(h:Step m ow s ow' s')(k:∀t,m t→m' t):Step m' ow s ow' s':=⟨h.next,fun x hx hm=>h.tags x hx fun q=>hm (k _ q),fun x hx hm=>h.heap x hx fun q=>hm (k _ q)⟩
def ext(ow:Ow)(n:Nat)(T:Tag):Ow:=fun x=>if x<n then ow x else T
theorem ext_lt{ow:Ow}{n:Nat}{T:Tag}{x:Nat}(h:x<n):ext ow n T x=ow x:=if_pos h
theorem ext_ge{ow:Ow}{n:Nat}{T:Tag}{x:Nat}(h:n≤x):ext ow n T x=T:=if_neg (by omega)
theorem Step.old{m:Tag→Prop}{ow:Ow}{s s':ASt}(h:Old s.next s s')(T:Tag):Step m ow s (ext ow s.next T) s':=⟨h.1,fun x hx _=>ext_lt hx,fun x hx _=>h.2 x hx⟩
theorem Step.new(m:Tag→Prop)(ow:Ow)(s:ASt)(o:AObj)(T:Tag):Step m ow s (ext ow s.next T) (newObj s o):=Step.old (Old.new s o) T
structure Mine(ow:Ow)(T:Tag)(s:ASt)(i:Nat)(r:ARow):Prop where
  get:s.heap.get i=some (.row r)
  whose:ow i=T
  lt:i<s.next
  own:r.mode=.own
  sz:r.sz=1
  par:∀p,r.par=some p→ow p=T∧p<s.next∧p≠i
theorem Mine.step{m:Tag→Prop}{ow ow':Ow}{T:Tag}{s s':ASt}{i:Nat}{r:ARow}(h:Mine ow T s i r)(k:Step m ow s ow' s')(hm:¬ m T):Mine ow' T s' i r:=by
  have hn:=k.next
  have hl:=h.lt
  refine⟨by rw[k.heap i h.lt (by rw[h.whose];exact hm)];exact h.get,by rw[k.tags i h.lt (by rw[h.whose];exact hm)];exact h.whose,by omega,h.own,h.sz,fun p hp=>?_⟩
  obtain⟨h1,h2,h3⟩:=h.par p hp
  exact⟨by rw[k.tags p h2 (by rw[h1];exact hm)];exact h1,by omega,h3⟩
theorem Mine.store{ow:Ow}{T:Tag}{s:ASt}{i o:Nat}{r:ARow}(h:Mine ow T s i r){vs:List AV}(hne:vs≠[])(ho:o+vs.length≤r.n)(hc:allCells vs=true):
    ∃s',storeN s i o vs=some s'∧Mine ow T s' i { r with c:=r.c.fill o vs,par:=none }∧Step (· = T) ow s ow s'∧s'.next=s.next:=by
  have hrow:rowAt s i=some r:=by simp[rowAt,h.get]
  have hst:storeN s i o vs=some (setObj (unshare s i r) i (.row { r with c:=r.c.fill o vs,par:=none })):=by
    cases vs with
    | nil=>exact absurd rfl hne
    | cons v vs =>
      have hb:=ble_of ho
      rw[List.length_cons]at hb
      simp[storeN,hrow,h.own,isOwn,hb,hc,guardB]
  have hun:(unshare s i r).next=s.next:=by
    unfold unshare
    split
    · rfl
    · rename_i p _
      cases Nat.beq p i<;>rfl
  refine⟨_,hst,⟨by rw[heap_set,if_pos rfl],h.whose,by show i<(unshare s i r).next;rw[hun];exact h.lt,h.own,h.sz,fun p hp=>by cases hp⟩,⟨by show s.next≤(unshare s i r).next;omega,fun _ _ _=>rfl,fun x hx hm=>?_⟩,hun⟩
  have hxi:x≠i:=fun e=>hm (by rw[e];exact h.whose)
  rw[heap_set,if_neg hxi]
  unfold unshare
  cases hp:r.par with
  | none=>rfl
  | some p =>
    obtain⟨h1,h2,h3⟩:=h.par p hp
    have hb:Nat.beq p i=false:=beq_off h3
    simp only[hb,cond_false]
    rw[heap_del,if_neg (fun e=>hm (by rw[e];exact h1))]
theorem eqA_refl_slice{a:Option (Nat×Nat)}{n:Nat}{cx:Option Nat}:eqA (.slice a n cx) (.slice a n cx)=true:=by
  cases a with
  | none=>cases cx<;>simp[eqA]
  | some io=>obtain⟨i,o⟩:=io;cases cx<;>simp[eqA]
def Buf(ow:Ow)(T:Tag)(s:ASt)(v:AV)(cs:List AV):Prop:=(v=.slice none 0 (some 0)∧cs=[]) ∨
  ∃i o cap r,v=.slice (some (i,o)) cs.length cap∧Mine ow T s i r∧(∀k u,cs[k]? = some u→r.c.get (o+k)=some u)∧o+cs.length≤r.n∧(match cap with
    | some c=>cs.length≤c∧o+c≤r.n
    | none=>o=0∧0<r.n)
theorem Buf.nil(ow:Ow)(T:Tag)(s:ASt):Buf ow T s (.slice none 0 (some 0)) []:=.inl ⟨rfl,rfl⟩
theorem Buf.step{m:Tag→Prop}{ow ow':Ow}{T:Tag}{s s':ASt}{v:AV}{cs:List AV}(h:Buf ow T s v cs)(k:Step m ow s ow' s')(hm:¬ m T):Buf ow' T s' v cs:=by
  rcases h with h | ⟨i,o,cap,r,h1,h2,h3⟩
  · exact .inl h
  · exact .inr ⟨i,o,cap,r,h1,h2.step k hm,h3⟩
theorem Buf.isCell{ow:Ow}{T:Tag}{s:ASt}{v:AV}{cs:List AV}(h:Buf ow T s v cs):v.isCell=true∧v.cells=[v]:=by
  rcases h with⟨rfl,_⟩ | ⟨i,o,cap,r,rfl,_⟩<;>exact⟨rfl,rfl⟩
theorem Buf.slice{ow:Ow}{T:Tag}{s:ASt}{v:AV}{cs:List AV}(h:Buf ow T s v cs):SliceAt s.next s v cs:=by
  rcases h with⟨rfl,rfl⟩ | ⟨i,o,cap,r,rfl,h2,h3,h4,h5⟩
  · exact⟨none,some 0,rfl,CellsAt.nil⟩
  · exact⟨_,_,rfl,fun k u hk=>⟨i,o,rfl,h2.lt,load1_row h2.get (by have:=lt_of_get hk;omega) (h3 k u hk)⟩⟩
theorem Buf.self{ow:Ow}{T:Tag}{s:ASt}{v:AV}{cs:List AV}(h:Buf ow T s v cs):eqA v v=true:=by
  obtain⟨a,cap,rfl,_⟩:=h.slice
  exact eqA_refl_slice
theorem Buf.len{ow:Ow}{T:Tag}{s:ASt}{v:AV}{cs:List AV}(h:Buf ow T s v cs){t e:TypeId}(ht:Try.prog.underlying t=some (.slice e))(s':ASt):lenA Try.prog s' t v=some (iv (cs.length:Int)):=by
  rcases h with⟨rfl,rfl⟩ | ⟨i,o,cap,r,rfl,_⟩
  · exact len_slice ht
  · exact len_slice ht
def addrOf(v:AV)(k:Nat):AV:=match v with
  | .slice (some (i,o)) _ _=>.ptr (some (i,o+k * 1))
  | _=>undefA
theorem Buf.addr{ow:Ow}{T:Tag}{s:ASt}{v:AV}{cs:List AV}(h:Buf ow T s v cs){t e:TypeId}(ht:Try.prog.underlying t=some (.slice e))(hs:sizeT Try.prog e=some 1){k:Nat}(hk:k<cs.length):indexAddrA Try.prog t v (iv (k:Int))=some (addrOf v k):=by
  rcases h with⟨rfl,rfl⟩ | ⟨i,o,cap,r,rfl,_⟩
  · simp at hk
  · exact idx_slice ht hs hk
theorem Buf.get{ow:Ow}{T:Tag}{s:ASt}{v:AV}{cs:List AV}(h:Buf ow T s v cs){t:TypeId}(ht:aggT Try.prog t=some false){k:Nat}{u:AV}(hk:cs[k]? = some u):loadV Try.prog s t (addrOf v k)=some u:=by
  rcases h with⟨rfl,rfl⟩ | ⟨i,o,cap,r,rfl,h2,h3,h4,h5⟩
  · simp at hk
  · refine load_one ht ?_
    rw[Nat.mul_one]
    exact load1_row h2.get (by have:=lt_of_get hk;omega) (h3 k u hk)
theorem Buf.set {ow : Ow} {T : Tag} {s : ASt} {v : AV} {cs : List AV} (h : Buf ow T s v cs) {t : TypeId} (ht : sizeT Try.prog t = some 1) {k : Nat} (hk : k < cs.length) {x : AV} (h1 : x.isCell = true) (h2 : x.cells = [x]) :
    ∃s',storeV Try.prog s t (addrOf v k) x=some s'∧Buf ow T s' v (cs.set k x)∧Step (· = T) ow s ow s'∧s'.next=s.next:=by
  rcases h with⟨rfl,rfl⟩ | ⟨i,o,cap,r,rfl,hm,h3,h4,h5⟩
  · simp at hk
  · obtain⟨s',g1,g2,g3,g4⟩:=hm.store (o:=o+k * 1) (vs:=[x]) (by simp) (by simp;omega) (by simp[allCells,h1])
    refine⟨s',?_,.inr ⟨i,o,cap,_,by rw[List.length_set],g2,fun j u hj=>?_,by rw[List.length_set];exact h4,?_⟩,g3,g4⟩
    · simp[addrOf,storeV,ht,h2,guardB]
      rw[← g1]
      congr 1
      omega
    · show(Tree.fill r.c (o+k * 1) [x]).get (o+j)=some u
      rw[Tree.get_fill]
      rw[List.getElem?_set]at hj
      by_cases e:k=j
      · subst e
        rw[if_pos rfl,if_pos hk]at hj
        rw[if_pos ⟨by omega,by show o+k<o+k * 1+1;omega⟩,show o+k - (o+k * 1)=0 by omega]
        exact hj
      · rw [if_neg e] at hj
        rw[if_neg (fun q=>e (by have q1:=q.1;have q2:o+j<o+k * 1+1:=q.2;omega))]
        exact h3 j u hj
    · cases cap with
      | none=>exact h5
      | some c=>exact⟨by rw[List.length_set];exact h5.1,h5.2⟩
def cutV(v:AV)(k:Nat):AV:=match v with
  | .slice a _ cap=>.slice a k cap
  | _=>v
theorem Buf.cut{ow:Ow}{T:Tag}{s:ASt}{v:AV}{cs:List AV}(h:Buf ow T s v cs){k:Nat}(hk:k≤cs.length):Buf ow T s (cutV v k) (cs.take k):=by
  rcases h with⟨rfl,rfl⟩ | ⟨i,o,cap,r,rfl,h2,h3,h4,h5⟩
  · have:k=0:=by simpa using hk
    subst this
    exact .inl ⟨rfl,rfl⟩
  · have hl:(cs.take k).length=k:=by rw[List.length_take];omega
    refine .inr ⟨i,o,cap,r,by rw[hl];rfl,h2,fun j u hj=>?_,by omega,?_⟩
    · rw[List.getElem?_take]at hj
      split at hj
      · exact h3 j u hj
      · cases hj
    · cases cap with
      | none=>exact h5
      | some c=>exact⟨by omega,h5.2⟩
theorem Buf.cut_op{ow:Ow}{T:Tag}{s:ASt}{v:AV}{cs:List AV}(h:Buf ow T s v cs){t e:TypeId}(ht:Try.prog.underlying t=some (.slice e))(hs:sizeT Try.prog e=some 1){k:Nat}(hk:k≤cs.length):
    sliceOpnds Try.prog t false true false s [v,iv (k:Int)]=some (cutV v k):=by
  rcases h with⟨rfl,rfl⟩ | ⟨i,o,cap,r,rfl,h2,h3,h4,h5⟩
  · have:k=0:=by simpa using hk
    subst this
    have hb:boundA (.int .i64 0) 0=some 0:=rfl
    show sliceA Try.prog s t (.slice none 0 (some 0)) none (some (iv ((0:Nat):Int))) none=_
    simp[sliceA,ht,hs,hb,guardB,cutV]
  · cases cap with
    | some c =>
      have hb:boundA (iv (k:Int)) c=some k:=by simp[boundA,idxOf,natOf_nat,guardB,ble_of (show k≤c by have:=h5.1;omega)]
      show sliceA Try.prog s t (.slice (some (i,o)) cs.length (some c)) none (some (iv (k:Int))) none=_
      cases hz:Nat.beq c 0<;>simp[sliceA,ht,hs,hb,guardB,hz,cutV]
    | none =>
      have h5:o=0:=h5.1
      subst h5
      have hb:boundA (iv (k:Int)) r.n=some k:=by simp[boundA,idxOf,natOf_nat,guardB,ble_of (show k≤r.n by omega)]
      have hrow:rowAt s i=some r:=by simp[rowAt,h2.get]
      show sliceA Try.prog s t (.slice (some (i,0)) cs.length none) none (some (iv (k:Int))) none=_
      simp[sliceA,ht,hs,hrow,h2.sz,guardB,hb,ble_of (Nat.zero_le r.n),show Nat.beq 1 0=false from rfl,cutV]
def restV(v:AV)(k:Nat):AV:=match v with
  | .slice none n (some c)=>.slice none (n - k) (some (c - k))
  | .slice (some (i,o)) n (some c)=>.slice (some (bif Nat.beq c k then (i,o)else (i,o+k * 1))) (n - k) (some (c - k))
  | .slice (some (i,o)) n none=>.slice (some (i,o+k * 1)) (n - k) none
  | v=>v
theorem Buf.rest {ow : Ow} {T : Tag} {s : ASt} {v : AV} {cs : List AV} (h : Buf ow T s v cs) {t e : TypeId} (ht : Try.prog.underlying t = some (.slice e)) (hs : sizeT Try.prog e = some 1) {k : Nat} (hk : k ≤ cs.length) :
    sliceOpnds Try.prog t true false false s [v,iv (k:Int)]=some (restV v k)∧SliceAt s.next s (restV v k) (cs.drop k):=by
  have hb:boundA (iv (k:Int)) cs.length=some k:=by simp[boundA,idxOf,natOf_nat,guardB,ble_of hk]
  rcases h with⟨rfl,rfl⟩ | ⟨i,o,cap,r,rfl,h2,h3,h4,h5⟩
  · have:k=0:=by simpa using hk
    subst this
    have hb0:boundA (.int .i64 0) 0=some 0:=rfl
    refine⟨?_,⟨none,some 0,rfl,CellsAt.nil⟩⟩
    show sliceA Try.prog s t (.slice none 0 (some 0)) (some (iv ((0:Nat):Int))) none none=_
    simp[sliceA,ht,hs,hb0,guardB,restV]
  · have cells:∀cap',SliceAt s.next s (.slice (some (i,o+k * 1)) (cs.length - k) cap') (cs.drop k):=fun cap'=>by
      refine⟨_,_,by rw[List.length_drop],fun j u hj=>⟨i,o+k * 1,rfl,h2.lt,?_⟩⟩
      rw[List.getElem?_drop]at hj
      rw[show o+k * 1+j=o+(k+j) by omega]
      exact load1_row h2.get (by have:=lt_of_get hj;omega) (h3 _ u hj)
    cases cap with
    | some c =>
      cases hz:Nat.beq c k with
      | false =>
        refine⟨?_,by simp only[restV,hz,cond_false];exact cells (some (c - k))⟩
        show sliceA Try.prog s t (.slice (some (i,o)) cs.length (some c)) (some (iv (k:Int))) none none=_
        simp[sliceA,ht,hs,hb,guardB,hz,restV]
      | true =>
        have hck:=Nat.eq_of_beq_eq_true hz
        have hkl:k=cs.length:=by have:=h5.1;omega
        refine⟨?_,by simp only[restV,hz,cond_true];exact⟨_,_,by rw[List.length_drop],fun j u hj=>by rw[hkl,List.drop_length]at hj;simp at hj⟩⟩
        show sliceA Try.prog s t (.slice (some (i,o)) cs.length (some c)) (some (iv (k:Int))) none none=_
        simp[sliceA,ht,hs,hb,guardB,hz,restV]
    | none =>
      have h5:o=0:=h5.1
      subst h5
      have hrow:rowAt s i=some r:=by simp[rowAt,h2.get]
      refine⟨?_,by simp only[restV];exact cells none⟩
      show sliceA Try.prog s t (.slice (some (i,0)) cs.length none) (some (iv (k:Int))) none none=_
      simp[sliceA,ht,hs,hrow,h2.sz,guardB,hb,ble_of (Nat.zero_le r.n),show Nat.beq 1 0=false from rfl,restV]
theorem fill_get{t:Tree AV}{n:Nat}{vs:List AV}{j:Nat}{u:AV}(h:vs[j]? = some u):(t.fill n vs).get (n+j)=some u:=by
  have:=lt_of_get h
  rw[Tree.get_fill,if_pos ⟨by omega,by omega⟩,Nat.add_sub_cancel_left]
  exact h
theorem fill_off{t:Tree AV}{n:Nat}{vs:List AV}{j:Nat}(h:j<n):(t.fill n vs).get j=t.get j:=by
  rw[Tree.get_fill,if_neg (by omega)]
theorem get_app{cs:List AV}{x u:AV}{k:Nat}(h:(cs++[x])[k]? = some u):(k<cs.length∧cs[k]? = some u)∨(k=cs.length∧u=x):=by
  rcases Nat.lt_or_ge k cs.length with hlt | hge
  · rw[List.getElem?_append_left hlt]at h;exact .inl ⟨hlt,h⟩
  · rw[List.getElem?_append_right hge]at h
    have hk:k=cs.length:=by
      rcases Nat.lt_or_ge (k - cs.length) 1 with h' | h'
      · omega
      · rw[List.getElem?_eq_none (by simpa using h')]at h;cases h
    subst hk
    exact .inr ⟨rfl,by simpa using h.symm⟩
theorem Buf.push {ow : Ow} {T : Tag} {s : ASt} {v : AV} {cs : List AV} (h : Buf ow T s v cs) {st e : TypeId} {by_ : Nat} (ht : Try.prog.underlying st = some (.slice e)) (hs : sizeT Try.prog e = some 1) (hb : bytesT Try.prog e = some by_) (hby : by_ ≤ 100) (hx : isSliceOrStr Try.prog st = true) (hz : zeroOk Try.prog e 1 = true)
    (hl:cs.length≤1000000000) {x:AV} (hc:x.isCell=true) {q:Nat} {ty:TypeId} {sz':Nat} (hq:s.heap.get q=some (mkRow ty sz' [x])):
    ∃v' s' ow',appendA Try.prog s [st,st] [v,.slice (some (q,0)) 1 (some 1)]=some (v',s')∧Buf ow' T s' v' (cs++[x])∧Step (· = T) ow s ow' s':=by
  have hsrc:srcCells Try.prog s e 1 (.slice (some (q,0)) 1 (some 1))=some (1,[x]):=src_one ty sz' hq rfl
  have hac:allCells [x]=true:=by simp[allCells,hc]
  have hmul:(cs.length+1) * by_≤(cs.length+1) * 100:=Nat.mul_le_mul_left _ hby
  have fresh:∀ (s1:ASt),Step (· = T) ow s ow s1→s1.next=s.next→(∀ (c:Tree AV) (par:Option Nat),(∀k u,(cs++[x])[k]? = some u→c.get k=some u)→(∀p,par=some p→ow p=T∧p<s.next) →
      ∃ow',Buf ow' T (newObj s1 (grownRow e 1 c (cs++[x]).length par)) (.slice (some (s.next,0)) (cs.length+1) none) (cs++[x])∧Step (· = T) ow s ow' (newObj s1 (grownRow e 1 c (cs++[x]).length par))):=by
    intro s1 hst hn c par hcg hpar
    refine⟨ext ow s1.next T,.inr ⟨s.next,0,none,{ elem:=e,sz:=1,n:=(cs++[x]).length,c,spare:=true,mode:=.own,par,bytes:=false },by rw[List.length_append];rfl,⟨by rw[heap_new,if_pos hn.symm];rfl,ext_ge (by omega),by show s.next<s1.next+1;omega,rfl,rfl,fun p hp=>?_⟩,fun k u hk=>by rw[Nat.zero_add];exact hcg k u hk,by rw[Nat.zero_add];exact Nat.le_refl _,⟨rfl,by show 0<(cs++[x]).length;simp⟩⟩,hst.trans (Step.new _ ow s1 _ T)⟩
    obtain⟨h1,h2⟩:=hpar p hp
    exact⟨by rw[ext_lt (by omega)];exact h1,by show p<s1.next+1;omega,by omega⟩
  rcases h with⟨rfl,rfl⟩ | ⟨i,o,cap,r,rfl,h2,h3,h4,h5⟩
  · obtain⟨ow',g1,g2⟩:=fresh s (Step.refl _ _ _) rfl (Tree.fill .leaf 0 [x]) none (fun k u hk=>by
      have:=fill_get (t:=Tree.leaf) (n:=0) hk
      rw[Nat.zero_add]at this
      exact this) (fun p hp=>by cases hp)
    refine⟨_,_,ow',?_,g1,g2⟩
    rw[appendA_eq ht hs hb (by decide) hx hsrc hac (by simp;omega) (by simp)]
    simp only[appTo,beq_off (show(1:Nat)≠0 by decide),cond_false,appFresh,guardB,hz,cond_true]
    rfl
  · have happ := appendA_eq (st := st) (xt := st) (a := some (i, o)) (n := cs.length) (cap := cap) ht hs hb (by decide) hx hsrc hac (by omega) (by omega)
    have hcells:loadN s i o (cs.length * 1)=some cs:=by
      have hrow:rowAt s i=some r:=by simp[rowAt,h2.get]
      simp only[loadN,hrow,Option.bind_some,Nat.mul_one,ble_of h4,guardB,cond_true]
      exact take_of _ _ fun j u hj=>h3 j u hj
    have freshC:∀k u,(cs++[x])[k]? = some u→(Tree.fill .leaf 0 (cs++[x])).get k=some u:=fun k u hk=>by
      have:=fill_get (t:=Tree.leaf) (n:=0) hk
      rw[Nat.zero_add]at this
      exact this
    cases cap with
    | some c =>
      obtain⟨h6,h7⟩:=h5
      by_cases hfit:cs.length+1≤c
      · obtain⟨s',g1,g2,g3,g4⟩:=h2.store (o:=o+cs.length * 1) (vs:=[x]) (by simp) (by simp;omega) hac
        refine⟨.slice (some (i,o)) (cs.length+1) (some c),s',ow,?_,.inr ⟨i,o,some c,_,by rw[List.length_append];rfl,g2,fun k u hk=>?_,by rw[List.length_append];show o+(cs.length+1)≤r.n;omega,by rw[List.length_append];exact⟨hfit,h7⟩⟩,g3⟩
        · rw[happ]
          simp only[appTo,appExact,ble_of hfit,cond_true,g1,Option.bind_some]
        · show(Tree.fill r.c (o+cs.length * 1) [x]).get (o+k)=some u
          rcases get_app hk with⟨k1,k2⟩ | ⟨rfl,rfl⟩
          · rw[fill_off (by omega)];exact h3 k u k2
          · have:=fill_get (t:=r.c) (n:=o+cs.length * 1) (vs:=[u]) (j:=0) rfl
            rw[show o+cs.length=o+cs.length * 1+0 by omega];exact this
      · obtain⟨ow',g1,g2⟩:=fresh s (Step.refl _ _ _) rfl (Tree.fill .leaf 0 (cs++[x])) none freshC (fun p hp=>by cases hp)
        refine⟨_,_,ow',?_,g1,g2⟩
        rw[happ]
        simp only[appTo,appExact,ble_off (show c<cs.length+1 by omega),cond_false,hcells,Option.bind_some,appFresh,guardB,hz,cond_true]
    | none =>
      have h5:o=0:=h5.1
      subst h5
      have hrow:rowAt s i=some r:=by simp[rowAt,h2.get]
      by_cases hfit:cs.length+1≤r.n
      · obtain⟨s',g1,g2,g3,g4⟩:=h2.store (o:=0+cs.length * 1) (vs:=[x]) (by simp) (by simp;omega) hac
        refine⟨.slice (some (i,0)) (cs.length+1) none,s',ow,?_,.inr ⟨i,0,none,_,by rw[List.length_append];rfl,g2,fun k u hk=>?_,by rw[List.length_append];show 0+(cs.length+1)≤r.n;omega,⟨rfl,by show 0<r.n;omega⟩⟩,g3⟩
        · rw[happ]
          simp only[appTo,hrow,Option.bind_some,appOpen,h2.sz,beq_of rfl,guardB,cond_true,ble_of (show 0+(cs.length+1) * 1≤r.n by omega),g1]
        · show(Tree.fill r.c (0+cs.length * 1) [x]).get (0+k)=some u
          rcases get_app hk with⟨k1,k2⟩ | ⟨rfl,rfl⟩
          · rw[fill_off (by omega)];exact h3 k u k2
          · have:=fill_get (t:=r.c) (n:=0+cs.length * 1) (vs:=[u]) (j:=0) rfl
            rw[show 0+cs.length=0+cs.length * 1+0 by omega];exact this
      · have hnf : Nat.ble (0 + (cs.length + 1) * 1) r.n = false := ble_off (by omega)
        have hends:Nat.beq (0+cs.length * 1) r.n=true:=beq_of (by omega)
        cases hsp:r.spare with
        | false =>
          obtain⟨ow',g1,g2⟩:=fresh s (Step.refl _ _ _) rfl (Tree.fill .leaf 0 (cs++[x])) none freshC (fun p hp=>by cases hp)
          refine⟨_,_,ow',?_,g1,g2⟩
          rw[happ]
          simp only[appTo,hrow,Option.bind_some,appOpen,h2.sz,beq_of rfl,guardB,cond_true,hnf,cond_false,hcells,hsp,appFresh,hz]
        | true =>
          have hun:(unshare s i r).next=s.next:=by
            unfold unshare
            split
            · rfl
            · rename_i p _
              cases Nat.beq p i<;>rfl
          have hst:Step (· = T) ow s ow (setObj (unshare s i r) i (.row { r with mode:=.sealed,par:=none })):=by
            refine⟨by show s.next≤(unshare s i r).next;omega,fun _ _ _=>rfl,fun y hy hm=>?_⟩
            have hyi:y≠i:=fun e=>hm (by rw[e];exact h2.whose)
            rw[heap_set,if_neg hyi]
            unfold unshare
            cases hp:r.par with
            | none=>rfl
            | some p =>
              obtain⟨k1,k2,k3⟩:=h2.par p hp
              simp only[beq_off k3,cond_false]
              rw[heap_del,if_neg (fun e=>hm (by rw[e];exact k1))]
          obtain⟨ow',g1,g2⟩:=fresh _ hst hun (r.c.fill (cs.length * 1) [x]) (some i) (fun k u hk=>by
            rcases get_app hk with⟨k1,k2⟩ | ⟨rfl,rfl⟩
            · rw[fill_off (by omega)]
              have:=h3 k u k2
              rw[Nat.zero_add]at this
              exact this
            · have:=fill_get (t:=r.c) (n:=cs.length * 1) (vs:=[u]) (j:=0) rfl
              rw[show cs.length=cs.length * 1+0 by omega]
              rw[show(cs.length * 1+0) * 1=cs.length * 1 by omega]
              exact this) (fun p hp=>by injection hp with hp;subst hp;exact⟨h2.whose,h2.lt⟩)
          refine⟨_,_,ow',?_,g1,g2⟩
          rw[happ]
          simp only[appTo,hrow,Option.bind_some,appOpen,h2.sz,beq_of rfl,guardB,cond_true,hnf,cond_false,hcells,hsp,appSpare,h2.own,isOwn,hz,Bool.and_self,hends,sealOld]
def BoxN(s:ASt)(i:Nat)(cs:List AV):Prop:=∃r,s.heap.get i=some (.row r)∧Holds r cs∧r.mode=.own∧r.par=none
theorem BoxN.keep{s s':ASt}{i:Nat}{cs:List AV}(h:BoxN s i cs)(k:s'.heap.get i=s.heap.get i):BoxN s' i cs:=by
  obtain⟨r,h1,h2⟩:=h
  exact⟨r,k.trans h1,h2⟩
theorem BoxN.load{s:ASt}{i k:Nat}{cs:List AV}{u:AV}(h:BoxN s i cs)(hk:cs[k]? = some u){t:TypeId}(ht:aggT Try.prog t=some false):loadV Try.prog s t (.ptr (some (i,k)))=some u:=by
  obtain⟨r,h1,h2,_⟩:=h
  exact load_one ht (load1_row h1 (by rw[h2.1];exact lt_of_get hk) (h2.2 k u hk))
theorem BoxN.store{s:ASt}{i k:Nat}{cs:List AV}{d:AV}(h:BoxN s i cs)(hk:k<cs.length){t:TypeId}(ht:sizeT Try.prog t=some 1)(h1:d.isCell=true)(h2:d.cells=[d]):
    ∃s',storeV Try.prog s t (.ptr (some (i,k))) d=some s'∧BoxN s' i (cs.set k d)∧s'.next=s.next∧∀x,x≠i→s'.heap.get x=s.heap.get x:=by
  obtain⟨r,g1,g2,g3,g4⟩:=h
  refine⟨_,store_one ht g1 g3 g4 (by rw[g2.1];exact hk) h2 h1,⟨{ r with c:=r.c.fill k [d],par:=none },by rw[heap_set,if_pos rfl],⟨by show r.n=_;rw[g2.1,List.length_set],fun j u hj=>?_⟩,g3,rfl⟩,rfl,fun x hx=>by rw[heap_set,if_neg hx]⟩
  show(Tree.fill r.c k [d]).get j=some u
  rw[List.getElem?_set]at hj
  by_cases e:k=j
  · subst e
    rw[if_pos rfl,if_pos hk]at hj
    rw[Tree.get_fill,if_pos ⟨Nat.le_refl _,by show k<k+1;omega⟩,Nat.sub_self]
    exact hj
  · rw [if_neg e] at hj
    rw[Tree.get_fill,if_neg (fun q=>e (by have q1:=q.1;have q2:j<k+1:=q.2;omega))]
    exact g2.2 j u hj
theorem BoxN.new{s:ASt}{t:TypeId}{cs:List AV}:BoxN (newObj s (mkRow t 0 cs)) s.next cs:=by
  obtain⟨r,h1,h2,h3,h4,h5,h6⟩:=holds_mkRow t 0 cs
  exact⟨r,by rw[heap_new,if_pos rfl,h1],h2,h5,h6⟩
abbrev Clause:=List Int×Bool×Bool
structure Sv where
  watches:List (List Nat)
  learned:List Nat
  value:List Int
  level:List Int
  why:List (Option Nat)
  heat:List Int
  phase:List Int
  trail:List Int
  limits:List Int
  head:Int
  broken:Bool
  model:List Int
  trace:List (Bool×List Int)
  many:Int
  room:Int
  cl:Nat→Option Clause
structure Sf where
  w:AV
  l:AV
  val:AV
  lev:AV
  why:AV
  heat:AV
  ph:AV
  tr:AV
  lim:AV
  mo:AV
  trc:AV
def ptrA(c:Nat):AV:=.ptr (some (c,0))
def whyA:Option Nat→AV
  | none=>.ptr none
  | some c=>ptrA c
abbrev svCells(x:Sf)(v:Sv):List AV:=[x.w,x.l,x.val,x.lev,x.why,x.heat,x.ph,x.tr,x.lim,iv v.head,.bool v.broken,x.mo,x.trc,iv v.many,iv v.room]
abbrev clss(L:List Nat):List AV:=L.map ptrA
def ClAt(ow:Ow)(s:ASt)(p c:Nat)(l:Clause):Prop:=∃u,BoxN s c [u,.bool l.2.1,.bool l.2.2]∧ow c=(p,14,c)∧c<s.next∧Buf ow (p,15,c) s u (ivs l.1)
def WAt(ow:Ow)(s:ASt)(p:Nat)(v:AV)(ws:List (List Nat)):Prop:=∃us:List AV,us.length=ws.length∧Buf ow (p,1,0) s v us∧∀ (k:Nat)(L:List Nat),ws[k]? = some L→∃u:AV,us[k]? = some u∧Buf ow (p,2,k) s u (clss L)
def TrAt(ow:Ow)(s:ASt)(p:Nat)(v:AV)(T:Trace20):Prop:=∃us O,Dest s v T.length 2 us O∧(∀j∈O,ow j=(p,12,0))∧(∀j,slot v=some j→ow j=(p,12,0)∧j<s.next)∧LineCells s.next s us T∧∀u∈us,∀j,slot u=some j→ow j=(p,13,0)∧j<s.next
structure SAt(ow:Ow)(s:ASt)(p:Nat)(x:Sf)(v:Sv):Prop where
  box:BoxN s p (svCells x v)
  tag:ow p=(p,0,0)
  lt:p<s.next
  w:WAt ow s p x.w v.watches
  learned:Buf ow (p,3,0) s x.l (v.learned.map ptrA)
  value:Buf ow (p,4,0) s x.val (ivs v.value)
  level:Buf ow (p,5,0) s x.lev (ivs v.level)
  why:Buf ow (p,6,0) s x.why (v.why.map whyA)
  heat:Buf ow (p,7,0) s x.heat (ivs v.heat)
  phase:Buf ow (p,8,0) s x.ph (ivs v.phase)
  trail:Buf ow (p,9,0) s x.tr (ivs v.trail)
  limits:Buf ow (p,10,0) s x.lim (ivs v.limits)
  model:Buf ow (p,11,0) s x.mo (ivs v.model)
  trace:TrAt ow s p x.trc v.trace
  cls:∀c l,v.cl c=some l→ClAt ow s p c l
def mine(p:Nat)(t:Tag):Prop:=t.1=p
def mineB(p:Nat)(t:Tag):Prop:=t.1=p∧t.2.1≠1∧t.2.1≠2∧t.2.1<16
def mineW(p:Nat)(t:Tag):Prop:=t.1=p∧(t.2.1=1∨t.2.1=2)
theorem Step.w{p:Nat}{ow ow':Ow}{s s':ASt}(h:Step (mineW p) ow s ow' s'):Step (mine p) ow s ow' s':=h.mono fun t ht=>ht.1
def mineN(p k:Nat)(t:Tag):Prop:=t=(p,0,0)∨t=(p,k,0)
theorem Step.n{p k:Nat}{ow ow':Ow}{s s':ASt}(h:Step (mineN p k) ow s ow' s')(h1:k≠1)(h2:k≠2)(h3:k<16):Step (mineB p) ow s ow' s':=h.mono fun t ht=>by
  rcases ht with e | e
  · rw[e];exact⟨rfl,by simp,by simp,by simp⟩
  · rw[e];exact⟨rfl,h1,h2,h3⟩
theorem Step.b{p:Nat}{ow ow':Ow}{s s':ASt}(h:Step (mineB p) ow s ow' s'):Step (mine p) ow s ow' s':=h.mono fun t ht=>ht.1
theorem ClAt.step{m:Tag→Prop}{ow ow':Ow}{s s':ASt}{p c:Nat}{l:Clause}(h:ClAt ow s p c l)(k:Step m ow s ow' s')(h1:¬ m (p,14,c))(h2:¬ m (p,15,c)):ClAt ow' s' p c l:=by
  obtain⟨u,g1,g2,g3,g4⟩:=h
  have hn:=k.next
  exact⟨u,g1.keep (k.heap c g3 (by rw[g2];exact h1)),by rw[k.tags c g3 (by rw[g2];exact h1)];exact g2,by omega,g4.step k h2⟩
theorem WAt.step{m:Tag→Prop}{ow ow':Ow}{s s':ASt}{p:Nat}{v:AV}{ws:List (List Nat)}(h:WAt ow s p v ws)(k:Step m ow s ow' s')(h1:¬ m (p,1,0))(h2:∀j,¬ m (p,2,j)):WAt ow' s' p v ws:=by
  obtain⟨us,g1,g2,g3⟩:=h
  exact⟨us,g1,g2.step k h1,fun j L hj=>let ⟨u,q1,q2⟩:=g3 j L hj;⟨u,q1,q2.step k (h2 j)⟩⟩
theorem TrAt.step{m:Tag→Prop}{ow ow':Ow}{s s':ASt}{p:Nat}{v:AV}{T:Trace20}(h:TrAt ow s p v T)(k:Step m ow s ow' s')(h1:¬ m (p,12,0))(h2:¬ m (p,13,0)):TrAt ow' s' p v T:=by
  obtain⟨us,O,g1,g2,g3,g4,g5⟩:=h
  have hn:=k.next
  refine⟨us,O,g1.frame k.next fun j hj=>k.heap j (g3 j hj).2 (by rw[(g3 j hj).1];exact h1),fun j hj=>by rw[k.tags j (g1.lt j hj) (by rw[g2 j hj];exact h1)];exact g2 j hj,fun j hj=>?_,(g4.mono hn).keep fun u hu j hj=>k.heap j (g5 u hu j hj).2 (by rw[(g5 u hu j hj).1];exact h2),fun u hu j hj=>?_⟩
  · obtain⟨q1,q2⟩:=g3 j hj
    exact⟨by rw[k.tags j q2 (by rw[q1];exact h1)];exact q1,by omega⟩
  · obtain⟨q1,q2⟩:=g5 u hu j hj
    exact⟨by rw[k.tags j q2 (by rw[q1];exact h2)];exact q1,by omega⟩
theorem BoxN.step{m:Tag→Prop}{ow ow':Ow}{s s':ASt}{i:Nat}{cs:List AV}{T:Tag}(h:BoxN s i cs)(k:Step m ow s ow' s')(ht:ow i=T)(hl:i<s.next)(hm:¬ m T):BoxN s' i cs:=h.keep (k.heap i hl (by rw[ht];exact hm))
theorem tne{p a b i j:Nat}(h:a≠b):¬ ((p,a,i):Tag)=(p,b,j):=fun e=>by
  injection e with _ e
  injection e with e _
  exact h e
theorem SAt.keep{m:Tag→Prop}{ow ow':Ow}{s s':ASt}{p:Nat}{x:Sf}{v:Sv}(h:SAt ow s p x v)(k:Step m ow s ow' s')(hm':∀t,m t→t.1≠p):SAt ow' s' p x v:=by
  have hm:∀a i,¬ m (p,a,i):=fun a i q=>hm' _ q rfl
  have hn:=k.next
  have hl:=h.lt
  exact { box:=h.box.step k h.tag h.lt (hm 0 0),tag:=by rw[k.tags p h.lt (by rw[h.tag];exact hm 0 0)];exact h.tag,lt:=by omega,w:=h.w.step k (hm 1 0) (fun j=>hm 2 j),learned:=h.learned.step k (hm 3 0),value:=h.value.step k (hm 4 0),level:=h.level.step k (hm 5 0),why:=h.why.step k (hm 6 0),heat:=h.heat.step k (hm 7 0),phase:=h.phase.step k (hm 8 0),trail:=h.trail.step k (hm 9 0),limits:=h.limits.step k (hm 10 0),model:=h.model.step k (hm 11 0),trace:=h.trace.step k (hm 12 0) (hm 13 0),cls:=fun c l hc=>(h.cls c l hc).step k (hm 14 c) (hm 15 c) }
theorem SAt.put_value{ow:Ow}{s:ASt}{p:Nat}{x:Sf}{v:Sv}(h:SAt ow s p x v){k:Nat}(hk:k<v.value.length)(y:Int):
    ∃s',storeV Try.prog s 3 (addrOf x.val k) (iv y)=some s'∧SAt ow s' p x { v with value:=v.value.set k y }∧Step (mineB p) ow s ow s'∧s'.next=s.next:=by
  obtain⟨s',g1,g2,g3,g4⟩:=h.value.set (t:=3) sz3 (k:=k) (x:=iv y) (by rw[List.length_map];exact hk) rfl rfl
  have hm:∀a i,a≠4→¬ ((p,a,i):Tag)=(p,4,0):=fun a i ha=>tne ha
  have hl:=h.lt
  refine⟨s',g1,{ box:=h.box.step g3 h.tag h.lt (hm 0 0 (by decide)),tag:=h.tag,lt:=by omega,w:=h.w.step g3 (hm 1 0 (by decide)) (fun j=>hm 2 j (by decide)),learned:=h.learned.step g3 (hm 3 0 (by decide)),value:=by show Buf ow (p,4,0) s' x.val (List.map _ (List.set v.value k y));rw[List.map_set];exact g2,level:=h.level.step g3 (hm 5 0 (by decide)),why:=h.why.step g3 (hm 6 0 (by decide)),heat:=h.heat.step g3 (hm 7 0 (by decide)),phase:=h.phase.step g3 (hm 8 0 (by decide)),trail:=h.trail.step g3 (hm 9 0 (by decide)),limits:=h.limits.step g3 (hm 10 0 (by decide)),model:=h.model.step g3 (hm 11 0 (by decide)),trace:=h.trace.step g3 (hm 12 0 (by decide)) (hm 13 0 (by decide)),cls:=fun c l hc=>(h.cls c l hc).step g3 (hm 14 c (by decide)) (hm 15 c (by decide)) },g3.mono fun t ht=>by rw[ht];exact⟨rfl,by simp,by simp,by simp⟩,g4⟩
theorem SAt.put_level{ow:Ow}{s:ASt}{p:Nat}{x:Sf}{v:Sv}(h:SAt ow s p x v){k:Nat}(hk:k<v.level.length)(y:Int):
    ∃s',storeV Try.prog s 3 (addrOf x.lev k) (iv y)=some s'∧SAt ow s' p x { v with level:=v.level.set k y }∧Step (mineB p) ow s ow s'∧s'.next=s.next:=by
  obtain⟨s',g1,g2,g3,g4⟩:=h.level.set (t:=3) sz3 (k:=k) (x:=iv y) (by rw[List.length_map];exact hk) rfl rfl
  have hm:∀a i,a≠5→¬ ((p,a,i):Tag)=(p,5,0):=fun a i ha=>tne ha
  have hl:=h.lt
  refine⟨s',g1,{ box:=h.box.step g3 h.tag h.lt (hm 0 0 (by decide)),tag:=h.tag,lt:=by omega,w:=h.w.step g3 (hm 1 0 (by decide)) (fun j=>hm 2 j (by decide)),learned:=h.learned.step g3 (hm 3 0 (by decide)),value:=h.value.step g3 (hm 4 0 (by decide)),level:=by show Buf ow (p,5,0) s' x.lev (List.map _ (List.set v.level k y));rw[List.map_set];exact g2,why:=h.why.step g3 (hm 6 0 (by decide)),heat:=h.heat.step g3 (hm 7 0 (by decide)),phase:=h.phase.step g3 (hm 8 0 (by decide)),trail:=h.trail.step g3 (hm 9 0 (by decide)),limits:=h.limits.step g3 (hm 10 0 (by decide)),model:=h.model.step g3 (hm 11 0 (by decide)),trace:=h.trace.step g3 (hm 12 0 (by decide)) (hm 13 0 (by decide)),cls:=fun c l hc=>(h.cls c l hc).step g3 (hm 14 c (by decide)) (hm 15 c (by decide)) },g3.mono fun t ht=>by rw[ht];exact⟨rfl,by simp,by simp,by simp⟩,g4⟩
theorem SAt.put_why{ow:Ow}{s:ASt}{p:Nat}{x:Sf}{v:Sv}(h:SAt ow s p x v){k:Nat}(hk:k<v.why.length)(y:Option Nat):
    ∃s',storeV Try.prog s 92 (addrOf x.why k) (whyA y)=some s'∧SAt ow s' p x { v with why:=v.why.set k y }∧Step (mineB p) ow s ow s'∧s'.next=s.next:=by
  obtain⟨s',g1,g2,g3,g4⟩:=h.why.set (t:=92) sz92 (k:=k) (x:=whyA y) (by rw[List.length_map];exact hk) (by cases y<;>rfl) (by cases y<;>rfl)
  have hm:∀a i,a≠6→¬ ((p,a,i):Tag)=(p,6,0):=fun a i ha=>tne ha
  have hl:=h.lt
  refine⟨s',g1,{ box:=h.box.step g3 h.tag h.lt (hm 0 0 (by decide)),tag:=h.tag,lt:=by omega,w:=h.w.step g3 (hm 1 0 (by decide)) (fun j=>hm 2 j (by decide)),learned:=h.learned.step g3 (hm 3 0 (by decide)),value:=h.value.step g3 (hm 4 0 (by decide)),level:=h.level.step g3 (hm 5 0 (by decide)),why:=by show Buf ow (p,6,0) s' x.why (List.map _ (List.set v.why k y));rw[List.map_set];exact g2,heat:=h.heat.step g3 (hm 7 0 (by decide)),phase:=h.phase.step g3 (hm 8 0 (by decide)),trail:=h.trail.step g3 (hm 9 0 (by decide)),limits:=h.limits.step g3 (hm 10 0 (by decide)),model:=h.model.step g3 (hm 11 0 (by decide)),trace:=h.trace.step g3 (hm 12 0 (by decide)) (hm 13 0 (by decide)),cls:=fun c l hc=>(h.cls c l hc).step g3 (hm 14 c (by decide)) (hm 15 c (by decide)) },g3.mono fun t ht=>by rw[ht];exact⟨rfl,by simp,by simp,by simp⟩,g4⟩
theorem SAt.put_heat{ow:Ow}{s:ASt}{p:Nat}{x:Sf}{v:Sv}(h:SAt ow s p x v){k:Nat}(hk:k<v.heat.length)(y:Int):
    ∃s',storeV Try.prog s 3 (addrOf x.heat k) (iv y)=some s'∧SAt ow s' p x { v with heat:=v.heat.set k y }∧Step (mineB p) ow s ow s'∧s'.next=s.next:=by
  obtain⟨s',g1,g2,g3,g4⟩:=h.heat.set (t:=3) sz3 (k:=k) (x:=iv y) (by rw[List.length_map];exact hk) rfl rfl
  have hm:∀a i,a≠7→¬ ((p,a,i):Tag)=(p,7,0):=fun a i ha=>tne ha
  have hl:=h.lt
  refine⟨s',g1,{ box:=h.box.step g3 h.tag h.lt (hm 0 0 (by decide)),tag:=h.tag,lt:=by omega,w:=h.w.step g3 (hm 1 0 (by decide)) (fun j=>hm 2 j (by decide)),learned:=h.learned.step g3 (hm 3 0 (by decide)),value:=h.value.step g3 (hm 4 0 (by decide)),level:=h.level.step g3 (hm 5 0 (by decide)),why:=h.why.step g3 (hm 6 0 (by decide)),heat:=by show Buf ow (p,7,0) s' x.heat (List.map _ (List.set v.heat k y));rw[List.map_set];exact g2,phase:=h.phase.step g3 (hm 8 0 (by decide)),trail:=h.trail.step g3 (hm 9 0 (by decide)),limits:=h.limits.step g3 (hm 10 0 (by decide)),model:=h.model.step g3 (hm 11 0 (by decide)),trace:=h.trace.step g3 (hm 12 0 (by decide)) (hm 13 0 (by decide)),cls:=fun c l hc=>(h.cls c l hc).step g3 (hm 14 c (by decide)) (hm 15 c (by decide)) },g3.mono fun t ht=>by rw[ht];exact⟨rfl,by simp,by simp,by simp⟩,g4⟩
theorem SAt.put_phase{ow:Ow}{s:ASt}{p:Nat}{x:Sf}{v:Sv}(h:SAt ow s p x v){k:Nat}(hk:k<v.phase.length)(y:Int):
    ∃s',storeV Try.prog s 3 (addrOf x.ph k) (iv y)=some s'∧SAt ow s' p x { v with phase:=v.phase.set k y }∧Step (mineB p) ow s ow s'∧s'.next=s.next:=by
  obtain⟨s',g1,g2,g3,g4⟩:=h.phase.set (t:=3) sz3 (k:=k) (x:=iv y) (by rw[List.length_map];exact hk) rfl rfl
  have hm:∀a i,a≠8→¬ ((p,a,i):Tag)=(p,8,0):=fun a i ha=>tne ha
  have hl:=h.lt
  refine⟨s',g1,{ box:=h.box.step g3 h.tag h.lt (hm 0 0 (by decide)),tag:=h.tag,lt:=by omega,w:=h.w.step g3 (hm 1 0 (by decide)) (fun j=>hm 2 j (by decide)),learned:=h.learned.step g3 (hm 3 0 (by decide)),value:=h.value.step g3 (hm 4 0 (by decide)),level:=h.level.step g3 (hm 5 0 (by decide)),why:=h.why.step g3 (hm 6 0 (by decide)),heat:=h.heat.step g3 (hm 7 0 (by decide)),phase:=by show Buf ow (p,8,0) s' x.ph (List.map _ (List.set v.phase k y));rw[List.map_set];exact g2,trail:=h.trail.step g3 (hm 9 0 (by decide)),limits:=h.limits.step g3 (hm 10 0 (by decide)),model:=h.model.step g3 (hm 11 0 (by decide)),trace:=h.trace.step g3 (hm 12 0 (by decide)) (hm 13 0 (by decide)),cls:=fun c l hc=>(h.cls c l hc).step g3 (hm 14 c (by decide)) (hm 15 c (by decide)) },g3.mono fun t ht=>by rw[ht];exact⟨rfl,by simp,by simp,by simp⟩,g4⟩
theorem SAt.set_head{ow:Ow}{s:ASt}{p:Nat}{x:Sf}{v:Sv}(h:SAt ow s p x v)(y:Int):
    ∃s',storeV Try.prog s 3 (.ptr (some (p,9))) (iv y)=some s'∧SAt ow s' p x { v with head:=y }∧Step (mineB p) ow s ow s'∧s'.next=s.next:=by
  obtain⟨s',g1,g2,g3,g4⟩:=h.box.store (k:=9) (d:=iv y) (by simp) (t:=3) sz3 rfl rfl
  have st:Step (· = (p,0,0)) ow s ow s':=⟨by omega,fun _ _ _=>rfl,fun y _ hm=>g4 y fun e=>hm (by rw[e];exact h.tag)⟩
  have hm:∀a i,a≠0→¬ ((p,a,i):Tag)=(p,0,0):=fun a i ha=>tne ha
  have hl:=h.lt
  refine⟨s',g1,{ box:=g2,tag:=h.tag,lt:=by omega,w:=h.w.step st (hm 1 0 (by decide)) (fun j=>hm 2 j (by decide)),learned:=h.learned.step st (hm 3 0 (by decide)),value:=h.value.step st (hm 4 0 (by decide)),level:=h.level.step st (hm 5 0 (by decide)),why:=h.why.step st (hm 6 0 (by decide)),heat:=h.heat.step st (hm 7 0 (by decide)),phase:=h.phase.step st (hm 8 0 (by decide)),trail:=h.trail.step st (hm 9 0 (by decide)),limits:=h.limits.step st (hm 10 0 (by decide)),model:=h.model.step st (hm 11 0 (by decide)),trace:=h.trace.step st (hm 12 0 (by decide)) (hm 13 0 (by decide)),cls:=fun c l hc=>(h.cls c l hc).step st (hm 14 c (by decide)) (hm 15 c (by decide)) },st.mono fun t ht=>by rw[ht];exact⟨rfl,by simp,by simp,by simp⟩,g3⟩
theorem SAt.set_many{ow:Ow}{s:ASt}{p:Nat}{x:Sf}{v:Sv}(h:SAt ow s p x v)(y:Int):
    ∃s',storeV Try.prog s 3 (.ptr (some (p,13))) (iv y)=some s'∧SAt ow s' p x { v with many:=y }∧Step (mineB p) ow s ow s'∧s'.next=s.next:=by
  obtain⟨s',g1,g2,g3,g4⟩:=h.box.store (k:=13) (d:=iv y) (by simp) (t:=3) sz3 rfl rfl
  have st:Step (· = (p,0,0)) ow s ow s':=⟨by omega,fun _ _ _=>rfl,fun y _ hm=>g4 y fun e=>hm (by rw[e];exact h.tag)⟩
  have hm:∀a i,a≠0→¬ ((p,a,i):Tag)=(p,0,0):=fun a i ha=>tne ha
  have hl:=h.lt
  refine⟨s',g1,{ box:=g2,tag:=h.tag,lt:=by omega,w:=h.w.step st (hm 1 0 (by decide)) (fun j=>hm 2 j (by decide)),learned:=h.learned.step st (hm 3 0 (by decide)),value:=h.value.step st (hm 4 0 (by decide)),level:=h.level.step st (hm 5 0 (by decide)),why:=h.why.step st (hm 6 0 (by decide)),heat:=h.heat.step st (hm 7 0 (by decide)),phase:=h.phase.step st (hm 8 0 (by decide)),trail:=h.trail.step st (hm 9 0 (by decide)),limits:=h.limits.step st (hm 10 0 (by decide)),model:=h.model.step st (hm 11 0 (by decide)),trace:=h.trace.step st (hm 12 0 (by decide)) (hm 13 0 (by decide)),cls:=fun c l hc=>(h.cls c l hc).step st (hm 14 c (by decide)) (hm 15 c (by decide)) },st.mono fun t ht=>by rw[ht];exact⟨rfl,by simp,by simp,by simp⟩,g3⟩
theorem SAt.set_trail{ow:Ow}{s:ASt}{p:Nat}{x:Sf}{v:Sv}(h:SAt ow s p x v){u:AV}{y:List Int}(hu:Buf ow (p,9,0) s u (ivs y)):
    ∃s',storeV Try.prog s 23 (.ptr (some (p,7))) u=some s'∧SAt ow s' p { x with tr:=u } { v with trail:=y }∧Step (mineB p) ow s ow s'∧s'.next=s.next:=by
  obtain⟨s',g1,g2,g3,g4⟩:=h.box.store (k:=7) (d:=u) (by simp) (t:=23) sz23 hu.isCell.1 hu.isCell.2
  have st:Step (· = (p,0,0)) ow s ow s':=⟨by omega,fun _ _ _=>rfl,fun y _ hm=>g4 y fun e=>hm (by rw[e];exact h.tag)⟩
  have hm:∀a i,a≠0→¬ ((p,a,i):Tag)=(p,0,0):=fun a i ha=>tne ha
  have hl:=h.lt
  refine⟨s',g1,{ box:=g2,tag:=h.tag,lt:=by omega,w:=h.w.step st (hm 1 0 (by decide)) (fun j=>hm 2 j (by decide)),learned:=h.learned.step st (hm 3 0 (by decide)),value:=h.value.step st (hm 4 0 (by decide)),level:=h.level.step st (hm 5 0 (by decide)),why:=h.why.step st (hm 6 0 (by decide)),heat:=h.heat.step st (hm 7 0 (by decide)),phase:=h.phase.step st (hm 8 0 (by decide)),trail:=hu.step st (hm 9 0 (by decide)),limits:=h.limits.step st (hm 10 0 (by decide)),model:=h.model.step st (hm 11 0 (by decide)),trace:=h.trace.step st (hm 12 0 (by decide)) (hm 13 0 (by decide)),cls:=fun c l hc=>(h.cls c l hc).step st (hm 14 c (by decide)) (hm 15 c (by decide)) },st.mono fun t ht=>by rw[ht];exact⟨rfl,by simp,by simp,by simp⟩,g3⟩
theorem SAt.set_limits{ow:Ow}{s:ASt}{p:Nat}{x:Sf}{v:Sv}(h:SAt ow s p x v){u:AV}{y:List Int}(hu:Buf ow (p,10,0) s u (ivs y)):
    ∃s',storeV Try.prog s 23 (.ptr (some (p,8))) u=some s'∧SAt ow s' p { x with lim:=u } { v with limits:=y }∧Step (mineB p) ow s ow s'∧s'.next=s.next:=by
  obtain⟨s',g1,g2,g3,g4⟩:=h.box.store (k:=8) (d:=u) (by simp) (t:=23) sz23 hu.isCell.1 hu.isCell.2
  have st:Step (· = (p,0,0)) ow s ow s':=⟨by omega,fun _ _ _=>rfl,fun y _ hm=>g4 y fun e=>hm (by rw[e];exact h.tag)⟩
  have hm:∀a i,a≠0→¬ ((p,a,i):Tag)=(p,0,0):=fun a i ha=>tne ha
  have hl:=h.lt
  refine⟨s',g1,{ box:=g2,tag:=h.tag,lt:=by omega,w:=h.w.step st (hm 1 0 (by decide)) (fun j=>hm 2 j (by decide)),learned:=h.learned.step st (hm 3 0 (by decide)),value:=h.value.step st (hm 4 0 (by decide)),level:=h.level.step st (hm 5 0 (by decide)),why:=h.why.step st (hm 6 0 (by decide)),heat:=h.heat.step st (hm 7 0 (by decide)),phase:=h.phase.step st (hm 8 0 (by decide)),trail:=h.trail.step st (hm 9 0 (by decide)),limits:=hu.step st (hm 10 0 (by decide)),model:=h.model.step st (hm 11 0 (by decide)),trace:=h.trace.step st (hm 12 0 (by decide)) (hm 13 0 (by decide)),cls:=fun c l hc=>(h.cls c l hc).step st (hm 14 c (by decide)) (hm 15 c (by decide)) },st.mono fun t ht=>by rw[ht];exact⟨rfl,by simp,by simp,by simp⟩,g3⟩
theorem SAt.set_model{ow:Ow}{s:ASt}{p:Nat}{x:Sf}{v:Sv}(h:SAt ow s p x v){u:AV}{y:List Int}(hu:Buf ow (p,11,0) s u (ivs y)):
    ∃s',storeV Try.prog s 23 (.ptr (some (p,11))) u=some s'∧SAt ow s' p { x with mo:=u } { v with model:=y }∧Step (mineB p) ow s ow s'∧s'.next=s.next:=by
  obtain⟨s',g1,g2,g3,g4⟩:=h.box.store (k:=11) (d:=u) (by simp) (t:=23) sz23 hu.isCell.1 hu.isCell.2
  have st:Step (· = (p,0,0)) ow s ow s':=⟨by omega,fun _ _ _=>rfl,fun y _ hm=>g4 y fun e=>hm (by rw[e];exact h.tag)⟩
  have hm:∀a i,a≠0→¬ ((p,a,i):Tag)=(p,0,0):=fun a i ha=>tne ha
  have hl:=h.lt
  refine⟨s',g1,{ box:=g2,tag:=h.tag,lt:=by omega,w:=h.w.step st (hm 1 0 (by decide)) (fun j=>hm 2 j (by decide)),learned:=h.learned.step st (hm 3 0 (by decide)),value:=h.value.step st (hm 4 0 (by decide)),level:=h.level.step st (hm 5 0 (by decide)),why:=h.why.step st (hm 6 0 (by decide)),heat:=h.heat.step st (hm 7 0 (by decide)),phase:=h.phase.step st (hm 8 0 (by decide)),trail:=h.trail.step st (hm 9 0 (by decide)),limits:=h.limits.step st (hm 10 0 (by decide)),model:=hu.step st (hm 11 0 (by decide)),trace:=h.trace.step st (hm 12 0 (by decide)) (hm 13 0 (by decide)),cls:=fun c l hc=>(h.cls c l hc).step st (hm 14 c (by decide)) (hm 15 c (by decide)) },st.mono fun t ht=>by rw[ht];exact⟨rfl,by simp,by simp,by simp⟩,g3⟩
theorem fa91_0(j:Nat):fieldAddrA Try.prog 91 (.ptr (some (j,0))) 0=some (.ptr (some (j,0))):=by
  simp[fieldAddrA,Try.underlying91,sz23,sz88,sz89,sz3,sz4,sz33,guardB]
  rfl
theorem fa91_1(j:Nat):fieldAddrA Try.prog 91 (.ptr (some (j,0))) 1=some (.ptr (some (j,1))):=by
  simp[fieldAddrA,Try.underlying91,sz23,sz88,sz89,sz3,sz4,sz33,guardB]
  rfl
theorem fa91_2(j:Nat):fieldAddrA Try.prog 91 (.ptr (some (j,0))) 2=some (.ptr (some (j,2))):=by
  simp[fieldAddrA,Try.underlying91,sz23,sz88,sz89,sz3,sz4,sz33,guardB]
  rfl
theorem fa91_3(j:Nat):fieldAddrA Try.prog 91 (.ptr (some (j,0))) 3=some (.ptr (some (j,3))):=by
  simp[fieldAddrA,Try.underlying91,sz23,sz88,sz89,sz3,sz4,sz33,guardB]
  rfl
theorem fa91_4(j:Nat):fieldAddrA Try.prog 91 (.ptr (some (j,0))) 4=some (.ptr (some (j,4))):=by
  simp[fieldAddrA,Try.underlying91,sz23,sz88,sz89,sz3,sz4,sz33,guardB]
  rfl
theorem fa91_5(j:Nat):fieldAddrA Try.prog 91 (.ptr (some (j,0))) 5=some (.ptr (some (j,5))):=by
  simp[fieldAddrA,Try.underlying91,sz23,sz88,sz89,sz3,sz4,sz33,guardB]
  rfl
theorem fa91_6(j:Nat):fieldAddrA Try.prog 91 (.ptr (some (j,0))) 6=some (.ptr (some (j,6))):=by
  simp[fieldAddrA,Try.underlying91,sz23,sz88,sz89,sz3,sz4,sz33,guardB]
  rfl
theorem fa91_7(j:Nat):fieldAddrA Try.prog 91 (.ptr (some (j,0))) 7=some (.ptr (some (j,7))):=by
  simp[fieldAddrA,Try.underlying91,sz23,sz88,sz89,sz3,sz4,sz33,guardB]
  rfl
theorem fa91_8(j:Nat):fieldAddrA Try.prog 91 (.ptr (some (j,0))) 8=some (.ptr (some (j,8))):=by
  simp[fieldAddrA,Try.underlying91,sz23,sz88,sz89,sz3,sz4,sz33,guardB]
  rfl
theorem fa91_9(j:Nat):fieldAddrA Try.prog 91 (.ptr (some (j,0))) 9=some (.ptr (some (j,9))):=by
  simp[fieldAddrA,Try.underlying91,sz23,sz88,sz89,sz3,sz4,sz33,guardB]
  rfl
theorem fa91_10(j:Nat):fieldAddrA Try.prog 91 (.ptr (some (j,0))) 10=some (.ptr (some (j,10))):=by
  simp[fieldAddrA,Try.underlying91,sz23,sz88,sz89,sz3,sz4,sz33,guardB]
  rfl
theorem fa91_11(j:Nat):fieldAddrA Try.prog 91 (.ptr (some (j,0))) 11=some (.ptr (some (j,11))):=by
  simp[fieldAddrA,Try.underlying91,sz23,sz88,sz89,sz3,sz4,sz33,guardB]
  rfl
theorem fa91_12(j:Nat):fieldAddrA Try.prog 91 (.ptr (some (j,0))) 12=some (.ptr (some (j,12))):=by
  simp[fieldAddrA,Try.underlying91,sz23,sz88,sz89,sz3,sz4,sz33,guardB]
  rfl
theorem fa91_13(j:Nat):fieldAddrA Try.prog 91 (.ptr (some (j,0))) 13=some (.ptr (some (j,13))):=by
  simp[fieldAddrA,Try.underlying91,sz23,sz88,sz89,sz3,sz4,sz33,guardB]
  rfl
theorem fa91_14(j:Nat):fieldAddrA Try.prog 91 (.ptr (some (j,0))) 14=some (.ptr (some (j,14))):=by
  simp[fieldAddrA,Try.underlying91,sz23,sz88,sz89,sz3,sz4,sz33,guardB]
  rfl
theorem fa104_0(j:Nat):fieldAddrA Try.prog 104 (.ptr (some (j,0))) 0=some (.ptr (some (j,0))):=by
  simp[fieldAddrA,Try.underlying104,sz23,sz4,guardB]
  rfl
theorem fa104_2(j:Nat):fieldAddrA Try.prog 104 (.ptr (some (j,0))) 2=some (.ptr (some (j,2))):=by
  simp[fieldAddrA,Try.underlying104,sz23,sz4,guardB]
  rfl
theorem nilCheck_ptr(a:Nat×Nat):nilCheckA (.ptr (some a))=some (.ptr (some a)):=rfl
theorem SAt.ld_w{ow:Ow}{s:ASt}{p:Nat}{x:Sf}{v:Sv}(h:SAt ow s p x v):loadV Try.prog s 88 (.ptr (some (p,0)))=some x.w:=h.box.load rfl ag88
theorem SAt.ld_l{ow:Ow}{s:ASt}{p:Nat}{x:Sf}{v:Sv}(h:SAt ow s p x v):loadV Try.prog s 89 (.ptr (some (p,1)))=some x.l:=h.box.load rfl ag89
theorem SAt.ld_val{ow:Ow}{s:ASt}{p:Nat}{x:Sf}{v:Sv}(h:SAt ow s p x v):loadV Try.prog s 23 (.ptr (some (p,2)))=some x.val:=h.box.load rfl ag23
theorem SAt.ld_lev{ow:Ow}{s:ASt}{p:Nat}{x:Sf}{v:Sv}(h:SAt ow s p x v):loadV Try.prog s 23 (.ptr (some (p,3)))=some x.lev:=h.box.load rfl ag23
theorem SAt.ld_why{ow:Ow}{s:ASt}{p:Nat}{x:Sf}{v:Sv}(h:SAt ow s p x v):loadV Try.prog s 89 (.ptr (some (p,4)))=some x.why:=h.box.load rfl ag89
theorem SAt.ld_heat{ow:Ow}{s:ASt}{p:Nat}{x:Sf}{v:Sv}(h:SAt ow s p x v):loadV Try.prog s 23 (.ptr (some (p,5)))=some x.heat:=h.box.load rfl ag23
theorem SAt.ld_ph{ow:Ow}{s:ASt}{p:Nat}{x:Sf}{v:Sv}(h:SAt ow s p x v):loadV Try.prog s 23 (.ptr (some (p,6)))=some x.ph:=h.box.load rfl ag23
theorem SAt.ld_tr{ow:Ow}{s:ASt}{p:Nat}{x:Sf}{v:Sv}(h:SAt ow s p x v):loadV Try.prog s 23 (.ptr (some (p,7)))=some x.tr:=h.box.load rfl ag23
theorem SAt.ld_lim{ow:Ow}{s:ASt}{p:Nat}{x:Sf}{v:Sv}(h:SAt ow s p x v):loadV Try.prog s 23 (.ptr (some (p,8)))=some x.lim:=h.box.load rfl ag23
theorem SAt.ld_mo{ow:Ow}{s:ASt}{p:Nat}{x:Sf}{v:Sv}(h:SAt ow s p x v):loadV Try.prog s 23 (.ptr (some (p,11)))=some x.mo:=h.box.load rfl ag23
theorem SAt.ld_trc{ow:Ow}{s:ASt}{p:Nat}{x:Sf}{v:Sv}(h:SAt ow s p x v):loadV Try.prog s 33 (.ptr (some (p,12)))=some x.trc:=h.box.load rfl ag33
theorem SAt.ld_head{ow:Ow}{s:ASt}{p:Nat}{x:Sf}{v:Sv}(h:SAt ow s p x v):loadV Try.prog s 3 (.ptr (some (p,9)))=some (iv v.head):=h.box.load rfl ag3
theorem SAt.ld_broken{ow:Ow}{s:ASt}{p:Nat}{x:Sf}{v:Sv}(h:SAt ow s p x v):loadV Try.prog s 4 (.ptr (some (p,10)))=some (.bool v.broken):=h.box.load rfl ag4
theorem SAt.ld_many{ow:Ow}{s:ASt}{p:Nat}{x:Sf}{v:Sv}(h:SAt ow s p x v):loadV Try.prog s 3 (.ptr (some (p,13)))=some (iv v.many):=h.box.load rfl ag3
theorem SAt.ld_room{ow:Ow}{s:ASt}{p:Nat}{x:Sf}{v:Sv}(h:SAt ow s p x v):loadV Try.prog s 3 (.ptr (some (p,14)))=some (iv v.room):=h.box.load rfl ag3
theorem zero92:zeroOk Try.prog 92 1=true:=by simp[zeroOk,zr92,AV.cells]
theorem zero89:zeroOk Try.prog 89 1=true:=by simp[zeroOk,zr89,AV.cells]
theorem str89:isSliceOrStr Try.prog 89=true:=strx 89 92 Try.underlying89
theorem str88:isSliceOrStr Try.prog 88=true:=strx 88 89 Try.underlying88
theorem str23:isSliceOrStr Try.prog 23=true:=strx 23 3 Try.underlying23
theorem SAt.push_learned{ow:Ow}{s:ASt}{p:Nat}{x:Sf}{v:Sv}(h:SAt ow s p x v)(hl:v.learned.length≤1000000000)(y:Nat){q:Nat}{ty sz':Nat}(hq:s.heap.get q=some (mkRow ty sz' [ptrA y])):
    ∃u s' s'' ow',appendA Try.prog s [89,89] [x.l,.slice (some (q,0)) 1 (some 1)]=some (u,s')∧storeV Try.prog s' 89 (.ptr (some (p,1))) u=some s''∧SAt ow' s'' p { x with l:=u } { v with learned:=v.learned++[y] }∧Step (mineN p 3) ow s ow' s'':=by
  obtain⟨u,s',ow',g1,g2,g3⟩:=h.learned.push (st:=89) (e:=92) Try.underlying89 sz92 by92 (by decide) str89 zero92 (by rw[List.length_map];exact hl) (x:=ptrA y) rfl hq
  have hm:∀a i,a≠3→¬ ((p,a,i):Tag)=(p,3,0):=fun a i ha=>tne ha
  have hl:=h.lt
  have hn:=g3.next
  have hb:BoxN s' p (svCells x v):=h.box.step g3 h.tag h.lt (hm 0 0 (by decide))
  have ht:ow' p=(p,0,0):=by rw[g3.tags p h.lt (by rw[h.tag];exact hm 0 0 (by decide))];exact h.tag
  obtain⟨s'',k1,k2,k3,k4⟩:=hb.store (k:=1) (d:=u) (by simp) (t:=89) sz89 g2.isCell.1 g2.isCell.2
  have st:Step (· = (p,0,0)) ow' s' ow' s'':=⟨by omega,fun _ _ _=>rfl,fun y _ hm=>k4 y fun e=>hm (by rw[e];exact ht)⟩
  have hm0:∀a i,a≠0→¬ ((p,a,i):Tag)=(p,0,0):=fun a i ha=>tne ha
  refine⟨u,s',s'',ow',g1,k1,{ box:=k2,tag:=ht,lt:=by omega,w:=(h.w.step g3 (hm 1 0 (by decide)) (fun j=>hm 2 j (by decide))).step st (hm0 1 0 (by decide)) (fun j=>hm0 2 j (by decide)),learned:=?_,value:=(h.value.step g3 (hm 4 0 (by decide))).step st (hm0 4 0 (by decide)),level:=(h.level.step g3 (hm 5 0 (by decide))).step st (hm0 5 0 (by decide)),why:=(h.why.step g3 (hm 6 0 (by decide))).step st (hm0 6 0 (by decide)),heat:=(h.heat.step g3 (hm 7 0 (by decide))).step st (hm0 7 0 (by decide)),phase:=(h.phase.step g3 (hm 8 0 (by decide))).step st (hm0 8 0 (by decide)),trail:=(h.trail.step g3 (hm 9 0 (by decide))).step st (hm0 9 0 (by decide)),limits:=(h.limits.step g3 (hm 10 0 (by decide))).step st (hm0 10 0 (by decide)),model:=(h.model.step g3 (hm 11 0 (by decide))).step st (hm0 11 0 (by decide)),trace:=(h.trace.step g3 (hm 12 0 (by decide)) (hm 13 0 (by decide))).step st (hm0 12 0 (by decide)) (hm0 13 0 (by decide)),cls:=fun c l hc=>((h.cls c l hc).step g3 (hm 14 c (by decide)) (hm 15 c (by decide))).step st (hm0 14 c (by decide)) (hm0 15 c (by decide)) },(g3.mono fun t ht=>.inr ht).trans (st.mono fun t ht=>.inl ht)⟩
  have e:(v.learned++[y]).map ptrA=v.learned.map ptrA++[ptrA y]:=by rw[List.map_append];rfl
  show Buf ow' (p,3,0) s'' u ((v.learned++[y]).map ptrA)
  rw[e]
  exact g2.step st (hm0 3 0 (by decide))
theorem SAt.push_trail{ow:Ow}{s:ASt}{p:Nat}{x:Sf}{v:Sv}(h:SAt ow s p x v)(hl:v.trail.length≤1000000000)(y:Int){q:Nat}{ty sz':Nat}(hq:s.heap.get q=some (mkRow ty sz' [iv y])):
    ∃u s' s'' ow',appendA Try.prog s [23,23] [x.tr,.slice (some (q,0)) 1 (some 1)]=some (u,s')∧storeV Try.prog s' 23 (.ptr (some (p,7))) u=some s''∧SAt ow' s'' p { x with tr:=u } { v with trail:=v.trail++[y] }∧Step (mineN p 9) ow s ow' s'':=by
  obtain⟨u,s',ow',g1,g2,g3⟩:=h.trail.push (st:=23) (e:=3) Try.underlying23 sz3 by3 (by decide) str23 zero3 (by rw[List.length_map];exact hl) (x:=iv y) rfl hq
  have hm:∀a i,a≠9→¬ ((p,a,i):Tag)=(p,9,0):=fun a i ha=>tne ha
  have hl:=h.lt
  have hn:=g3.next
  have hb:BoxN s' p (svCells x v):=h.box.step g3 h.tag h.lt (hm 0 0 (by decide))
  have ht:ow' p=(p,0,0):=by rw[g3.tags p h.lt (by rw[h.tag];exact hm 0 0 (by decide))];exact h.tag
  obtain⟨s'',k1,k2,k3,k4⟩:=hb.store (k:=7) (d:=u) (by simp) (t:=23) sz23 g2.isCell.1 g2.isCell.2
  have st:Step (· = (p,0,0)) ow' s' ow' s'':=⟨by omega,fun _ _ _=>rfl,fun y _ hm=>k4 y fun e=>hm (by rw[e];exact ht)⟩
  have hm0:∀a i,a≠0→¬ ((p,a,i):Tag)=(p,0,0):=fun a i ha=>tne ha
  refine⟨u,s',s'',ow',g1,k1,{ box:=k2,tag:=ht,lt:=by omega,w:=(h.w.step g3 (hm 1 0 (by decide)) (fun j=>hm 2 j (by decide))).step st (hm0 1 0 (by decide)) (fun j=>hm0 2 j (by decide)),learned:=(h.learned.step g3 (hm 3 0 (by decide))).step st (hm0 3 0 (by decide)),value:=(h.value.step g3 (hm 4 0 (by decide))).step st (hm0 4 0 (by decide)),level:=(h.level.step g3 (hm 5 0 (by decide))).step st (hm0 5 0 (by decide)),why:=(h.why.step g3 (hm 6 0 (by decide))).step st (hm0 6 0 (by decide)),heat:=(h.heat.step g3 (hm 7 0 (by decide))).step st (hm0 7 0 (by decide)),phase:=(h.phase.step g3 (hm 8 0 (by decide))).step st (hm0 8 0 (by decide)),trail:=?_,limits:=(h.limits.step g3 (hm 10 0 (by decide))).step st (hm0 10 0 (by decide)),model:=(h.model.step g3 (hm 11 0 (by decide))).step st (hm0 11 0 (by decide)),trace:=(h.trace.step g3 (hm 12 0 (by decide)) (hm 13 0 (by decide))).step st (hm0 12 0 (by decide)) (hm0 13 0 (by decide)),cls:=fun c l hc=>((h.cls c l hc).step g3 (hm 14 c (by decide)) (hm 15 c (by decide))).step st (hm0 14 c (by decide)) (hm0 15 c (by decide)) },(g3.mono fun t ht=>.inr ht).trans (st.mono fun t ht=>.inl ht)⟩
  have e:(v.trail++[y]).map iv=v.trail.map iv++[iv y]:=by rw[List.map_append];rfl
  show Buf ow' (p,9,0) s'' u ((v.trail++[y]).map iv)
  rw[e]
  exact g2.step st (hm0 9 0 (by decide))
theorem SAt.push_limits{ow:Ow}{s:ASt}{p:Nat}{x:Sf}{v:Sv}(h:SAt ow s p x v)(hl:v.limits.length≤1000000000)(y:Int){q:Nat}{ty sz':Nat}(hq:s.heap.get q=some (mkRow ty sz' [iv y])):
    ∃u s' s'' ow',appendA Try.prog s [23,23] [x.lim,.slice (some (q,0)) 1 (some 1)]=some (u,s')∧storeV Try.prog s' 23 (.ptr (some (p,8))) u=some s''∧SAt ow' s'' p { x with lim:=u } { v with limits:=v.limits++[y] }∧Step (mineN p 10) ow s ow' s'':=by
  obtain⟨u,s',ow',g1,g2,g3⟩:=h.limits.push (st:=23) (e:=3) Try.underlying23 sz3 by3 (by decide) str23 zero3 (by rw[List.length_map];exact hl) (x:=iv y) rfl hq
  have hm:∀a i,a≠10→¬ ((p,a,i):Tag)=(p,10,0):=fun a i ha=>tne ha
  have hl:=h.lt
  have hn:=g3.next
  have hb:BoxN s' p (svCells x v):=h.box.step g3 h.tag h.lt (hm 0 0 (by decide))
  have ht:ow' p=(p,0,0):=by rw[g3.tags p h.lt (by rw[h.tag];exact hm 0 0 (by decide))];exact h.tag
  obtain⟨s'',k1,k2,k3,k4⟩:=hb.store (k:=8) (d:=u) (by simp) (t:=23) sz23 g2.isCell.1 g2.isCell.2
  have st:Step (· = (p,0,0)) ow' s' ow' s'':=⟨by omega,fun _ _ _=>rfl,fun y _ hm=>k4 y fun e=>hm (by rw[e];exact ht)⟩
  have hm0:∀a i,a≠0→¬ ((p,a,i):Tag)=(p,0,0):=fun a i ha=>tne ha
  refine⟨u,s',s'',ow',g1,k1,{ box:=k2,tag:=ht,lt:=by omega,w:=(h.w.step g3 (hm 1 0 (by decide)) (fun j=>hm 2 j (by decide))).step st (hm0 1 0 (by decide)) (fun j=>hm0 2 j (by decide)),learned:=(h.learned.step g3 (hm 3 0 (by decide))).step st (hm0 3 0 (by decide)),value:=(h.value.step g3 (hm 4 0 (by decide))).step st (hm0 4 0 (by decide)),level:=(h.level.step g3 (hm 5 0 (by decide))).step st (hm0 5 0 (by decide)),why:=(h.why.step g3 (hm 6 0 (by decide))).step st (hm0 6 0 (by decide)),heat:=(h.heat.step g3 (hm 7 0 (by decide))).step st (hm0 7 0 (by decide)),phase:=(h.phase.step g3 (hm 8 0 (by decide))).step st (hm0 8 0 (by decide)),trail:=(h.trail.step g3 (hm 9 0 (by decide))).step st (hm0 9 0 (by decide)),limits:=?_,model:=(h.model.step g3 (hm 11 0 (by decide))).step st (hm0 11 0 (by decide)),trace:=(h.trace.step g3 (hm 12 0 (by decide)) (hm 13 0 (by decide))).step st (hm0 12 0 (by decide)) (hm0 13 0 (by decide)),cls:=fun c l hc=>((h.cls c l hc).step g3 (hm 14 c (by decide)) (hm 15 c (by decide))).step st (hm0 14 c (by decide)) (hm0 15 c (by decide)) },(g3.mono fun t ht=>.inr ht).trans (st.mono fun t ht=>.inl ht)⟩
  have e:(v.limits++[y]).map iv=v.limits.map iv++[iv y]:=by rw[List.map_append];rfl
  show Buf ow' (p,10,0) s'' u ((v.limits++[y]).map iv)
  rw[e]
  exact g2.step st (hm0 10 0 (by decide))
theorem SAt.watch_in{ow:Ow}{s:ASt}{p:Nat}{x:Sf}{v:Sv}(h:SAt ow s p x v){k:Nat}{L:List Nat}(hk:v.watches[k]? = some L)(hl:L.length≤1000000000)(c:Nat){q:Nat}{ty sz':Nat}(hq:s.heap.get q=some (mkRow ty sz' [ptrA c])):
    ∃u u' s' s'' ow',indexAddrA Try.prog 88 x.w (iv (k:Int))=some (addrOf x.w k)∧loadV Try.prog s 89 (addrOf x.w k)=some u∧appendA Try.prog s [89,89] [u,.slice (some (q,0)) 1 (some 1)]=some (u',s')∧loadV Try.prog s' 88 (.ptr (some (p,0)))=some x.w∧storeV Try.prog s' 89 (addrOf x.w k) u'=some s'' ∧
      SAt ow' s'' p x { v with watches:=v.watches.set k (L++[c]) }∧Step (mineW p) ow s ow' s''∧∀j,j<v.watches.length→j≠k→loadV Try.prog s'' 89 (addrOf x.w j)=loadV Try.prog s 89 (addrOf x.w j):=by
  obtain⟨us,w1,w2,w3⟩:=h.w
  obtain⟨u,hu1,hu2⟩:=w3 k L hk
  have hkl:k<v.watches.length:=lt_of_get hk
  obtain⟨u',s',ow',g1,g2,g3⟩:=hu2.push (st:=89) (e:=92) Try.underlying89 sz92 by92 (by decide) str89 zero92 (by rw[List.length_map];exact hl) (x:=ptrA c) rfl hq
  have hm:∀a i,(a,i)≠(2,k)→¬ ((p,a,i):Tag)=(p,2,k):=fun a i ha e=>by
    injection e with _ e
    exact ha e
  have hm':∀a i,a≠2→¬ ((p,a,i):Tag)=(p,2,k):=fun a i ha=>tne ha
  have hlt:=h.lt
  have hn:=g3.next
  have w2':Buf ow' (p,1,0) s' x.w us:=w2.step g3 (hm' 1 0 (by decide))
  obtain⟨s'',k1,k2,k3,k4⟩:=w2'.set (t:=89) sz89 (k:=k) (x:=u') (by omega) g2.isCell.1 g2.isCell.2
  have hm1:∀a i,a≠1→¬ ((p,a,i):Tag)=(p,1,0):=fun a i ha=>tne ha
  refine⟨u,u',s',s'',ow',w2.addr Try.underlying88 sz89 (by omega),w2.get ag89 hu1,g1,(h.box.step g3 h.tag h.lt (hm' 0 0 (by decide))).load rfl ag88,k1,{ box:=(h.box.step g3 h.tag h.lt (hm' 0 0 (by decide))).step k3 (by rw[g3.tags p h.lt (by rw[h.tag];exact hm' 0 0 (by decide))];exact h.tag) (by omega) (hm1 0 0 (by decide)),tag:=by rw[g3.tags p h.lt (by rw[h.tag];exact hm' 0 0 (by decide))];exact h.tag,lt:=by omega,w:=?_,learned:=(h.learned.step g3 (hm' 3 0 (by decide))).step k3 (hm1 3 0 (by decide)),value:=(h.value.step g3 (hm' 4 0 (by decide))).step k3 (hm1 4 0 (by decide)),level:=(h.level.step g3 (hm' 5 0 (by decide))).step k3 (hm1 5 0 (by decide)),why:=(h.why.step g3 (hm' 6 0 (by decide))).step k3 (hm1 6 0 (by decide)),heat:=(h.heat.step g3 (hm' 7 0 (by decide))).step k3 (hm1 7 0 (by decide)),phase:=(h.phase.step g3 (hm' 8 0 (by decide))).step k3 (hm1 8 0 (by decide)),trail:=(h.trail.step g3 (hm' 9 0 (by decide))).step k3 (hm1 9 0 (by decide)),limits:=(h.limits.step g3 (hm' 10 0 (by decide))).step k3 (hm1 10 0 (by decide)),model:=(h.model.step g3 (hm' 11 0 (by decide))).step k3 (hm1 11 0 (by decide)),trace:=(h.trace.step g3 (hm' 12 0 (by decide)) (hm' 13 0 (by decide))).step k3 (hm1 12 0 (by decide)) (hm1 13 0 (by decide)),cls:=fun c l hc=>((h.cls c l hc).step g3 (hm' 14 c (by decide)) (hm' 15 c (by decide))).step k3 (hm1 14 c (by decide)) (hm1 15 c (by decide)) },(g3.mono fun t ht=>by rw[ht];exact⟨rfl,.inr rfl⟩).trans (k3.mono fun t ht=>by rw[ht];exact⟨rfl,.inl rfl⟩),fun j hj hne=>?_⟩
  rotate_left
  · have hju:us[j]? = some us[j]:=List.getElem?_eq_getElem (by omega)
    rw[w2.get ag89 hju]
    exact k2.get ag89 (by rw[List.getElem?_set,if_neg (fun e=>hne e.symm)];exact hju)
  refine⟨us.set k u',by rw[List.length_set,List.length_set,w1],k2,fun j M hj=>?_⟩
  rw[List.getElem?_set]at hj
  by_cases e:k=j
  · subst e
    rw[if_pos rfl,if_pos hkl]at hj
    injection hj with hj
    subst hj
    refine⟨u',by rw[List.getElem?_set,if_pos rfl,if_pos (by omega)],?_⟩
    have e':clss (L++[c])=clss L++[ptrA c]:=by
      show List.map ptrA (L++[c])=List.map ptrA L++[ptrA c]
      rw[List.map_append];rfl
    rw[e']
    exact g2.step k3 (hm1 2 k (by decide))
  · rw[if_neg e]at hj
    obtain⟨w,q1,q2⟩:=w3 j M hj
    exact⟨w,by rw[List.getElem?_set,if_neg e];exact q1,(q2.step g3 (hm 2 j (fun q=>by injection q with _ q;exact e q.symm))).step k3 (hm1 2 j (by decide))⟩
theorem SAt.watch_set{ow:Ow}{s:ASt}{p:Nat}{x:Sf}{v:Sv}(h:SAt ow s p x v){k:Nat}(hk:k<v.watches.length){u':AV}{L':List Nat}(hu:Buf ow (p,2,k) s u' (clss L')):
    ∃s'',storeV Try.prog s 89 (addrOf x.w k) u'=some s''∧SAt ow s'' p x { v with watches:=v.watches.set k L' }∧Step (mineW p) ow s ow s''∧s''.next=s.next:=by
  obtain⟨us,w1,w2,w3⟩:=h.w
  have hlt:=h.lt
  obtain⟨s'',k1,k2,k3,k4⟩:=w2.set (t:=89) sz89 (k:=k) (x:=u') (by omega) hu.isCell.1 hu.isCell.2
  have hm1:∀a i,a≠1→¬ ((p,a,i):Tag)=(p,1,0):=fun a i ha=>tne ha
  refine⟨s'',k1,{ box:=h.box.step k3 h.tag h.lt (hm1 0 0 (by decide)),tag:=h.tag,lt:=by omega,w:=?_,learned:=h.learned.step k3 (hm1 3 0 (by decide)),value:=h.value.step k3 (hm1 4 0 (by decide)),level:=h.level.step k3 (hm1 5 0 (by decide)),why:=h.why.step k3 (hm1 6 0 (by decide)),heat:=h.heat.step k3 (hm1 7 0 (by decide)),phase:=h.phase.step k3 (hm1 8 0 (by decide)),trail:=h.trail.step k3 (hm1 9 0 (by decide)),limits:=h.limits.step k3 (hm1 10 0 (by decide)),model:=h.model.step k3 (hm1 11 0 (by decide)),trace:=h.trace.step k3 (hm1 12 0 (by decide)) (hm1 13 0 (by decide)),cls:=fun c l hc=>(h.cls c l hc).step k3 (hm1 14 c (by decide)) (hm1 15 c (by decide)) },k3.mono fun t ht=>by rw[ht];exact⟨rfl,.inl rfl⟩,k4⟩
  refine⟨us.set k u',by rw[List.length_set,List.length_set,w1],k2,fun j M hj=>?_⟩
  rw[List.getElem?_set]at hj
  by_cases e:k=j
  · subst e
    rw[if_pos rfl,if_pos hk]at hj
    injection hj with hj
    subst hj
    exact⟨u',by rw[List.getElem?_set,if_pos rfl,if_pos (by omega)],hu.step k3 (hm1 2 k (by decide))⟩
  · rw[if_neg e]at hj
    obtain⟨w,q1,q2⟩:=w3 j M hj
    exact⟨w,by rw[List.getElem?_set,if_neg e];exact q1,q2.step k3 (hm1 2 j (by decide))⟩
theorem SAt.put_lit{ow:Ow}{s:ASt}{p:Nat}{x:Sf}{v:Sv}(h:SAt ow s p x v){c:Nat}{ls:List Int}{b:Bool×Bool}(hc:v.cl c=some (ls,b)){k:Nat}(hk:k<ls.length)(y:Int){u:AV}(hu:loadV Try.prog s 23 (.ptr (some (c,0)))=some u):
    ∃s',storeV Try.prog s 3 (addrOf u k) (iv y)=some s'∧SAt ow s' p x { v with cl:=fun d=>if d=c then some (ls.set k y,b)else v.cl d }∧Step (mineB p) ow s ow s'∧s'.next=s.next∧loadV Try.prog s' 23 (.ptr (some (c,0)))=some u:=by
  obtain⟨u',g1,g2,g3,g4⟩:=h.cls c _ hc
  have e:u'=u:=by
    have:=g1.load (k:=0) rfl (t:=23) ag23
    rw[hu]at this
    injection this with this
    exact this.symm
  subst e
  obtain⟨s',k1,k2,k3,k4⟩:=g4.set (t:=3) sz3 (k:=k) (x:=iv y) (by rw[List.length_map];exact hk) rfl rfl
  have hm:∀a i,a≠15→¬ ((p,a,i):Tag)=(p,15,c):=fun a i ha=>tne ha
  have hlt:=h.lt
  have hbc:BoxN s' c [u',.bool b.1,.bool b.2]:=g1.step k3 g2 g3 (hm 14 c (by decide))
  refine⟨s',k1,{ box:=h.box.step k3 h.tag h.lt (hm 0 0 (by decide)),tag:=h.tag,lt:=by omega,w:=h.w.step k3 (hm 1 0 (by decide)) (fun j=>hm 2 j (by decide)),learned:=h.learned.step k3 (hm 3 0 (by decide)),value:=h.value.step k3 (hm 4 0 (by decide)),level:=h.level.step k3 (hm 5 0 (by decide)),why:=h.why.step k3 (hm 6 0 (by decide)),heat:=h.heat.step k3 (hm 7 0 (by decide)),phase:=h.phase.step k3 (hm 8 0 (by decide)),trail:=h.trail.step k3 (hm 9 0 (by decide)),limits:=h.limits.step k3 (hm 10 0 (by decide)),model:=h.model.step k3 (hm 11 0 (by decide)),trace:=h.trace.step k3 (hm 12 0 (by decide)) (hm 13 0 (by decide)),cls:=fun d l hd=>?_ },k3.mono fun t ht=>by rw[ht];exact⟨rfl,by simp,by simp,by simp⟩,k4,hbc.load (k:=0) rfl ag23⟩
  have hd:(if d=c then some (ls.set k y,b)else v.cl d)=some l:=hd
  by_cases ed:d=c
  · subst ed
    rw[if_pos rfl]at hd
    injection hd with hd
    subst hd
    exact⟨u',hbc,g2,by omega,by show Buf ow (p,15,d) s' u' (List.map _ (List.set ls k y));rw[List.map_set];exact k2⟩
  · rw[if_neg ed]at hd
    exact(h.cls d l hd).step k3 (hm 14 d (by decide)) (fun q=>by injection q with _ q;injection q with _ q;exact ed q)
theorem SAt.lits{ow:Ow}{s:ASt}{p:Nat}{x:Sf}{v:Sv}(h:SAt ow s p x v){c:Nat}{l:Clause}(hc:v.cl c=some l):∃u,loadV Try.prog s 23 (.ptr (some (c,0)))=some u∧loadV Try.prog s 4 (.ptr (some (c,1)))=some (.bool l.2.1)∧loadV Try.prog s 4 (.ptr (some (c,2)))=some (.bool l.2.2)∧Buf ow (p,15,c) s u (ivs l.1)∧c<s.next:=by
  obtain⟨u,g1,g2,g3,g4⟩:=h.cls c l hc
  exact⟨u,g1.load rfl ag23,g1.load rfl ag4,g1.load rfl ag4,g4,g3⟩
def sgn(l:Int):Int:=if l<0 then -1 else 1
def place(l:Int):Nat:=if l<0 then 1+2 * l.natAbs else 2 * l.natAbs
def VL(n:Nat)(l:Int):Prop:=l≠0∧l.natAbs≤n
instance (n:Nat)(l:Int):Decidable (VL n l):=by unfold VL;exact inferInstance
theorem VL.place{n:Nat}{l:Int}(h:VL n l):place l<2 * n+2:=by
  obtain⟨h1,h2⟩:=h
  unfold Go.Proofs.Ytilhhmkdcoajnaa.Am.place
  split<;>omega
theorem place_inj{l k:Int}(hl:l≠0)(hk:k≠0)(h:place l=place k):l=k:=by
  unfold Go.Proofs.Ytilhhmkdcoajnaa.Am.place at h
  split at h<;>split at h<;>omega
theorem bin_quo_self{n:Nat}(hn:n<1000000000){l:Int}(h:VL n l):binA Try.prog .quo 3 (iv l) (iv (l.natAbs:Int))=some (iv (sgn l)):=by
  obtain⟨h1,h2⟩:=h
  have hne:(l.natAbs:Int)≠0:=by omega
  have hq:l.tdiv (l.natAbs:Int)=sgn l:=by
    unfold sgn
    split
    · have:l=-(l.natAbs:Int):=by omega
      generalize l.natAbs=m at *
      subst this
      rw[Int.neg_tdiv,Int.tdiv_self hne]
    · have:l=(l.natAbs:Int):=by omega
      generalize l.natAbs=m at *
      subst this
      rw[Int.tdiv_self hne]
  have hk:sameKind .i64 .i64=true:=rfl
  show guardB (sameKind .i64 .i64) ((runP Try.prog (Op.intDiv .quo .i64 l (l.natAbs:Int))).bind ofValue)=_
  rw[hk]
  unfold Op.intDiv
  rw[if_neg hne,hq]
  have hs:sgn l=-1∨sgn l=1:=by unfold sgn;split<;>simp
  rcases hs with e | e<;>rw[e]<;>rfl
theorem variable_ok{E:Env}(hE:Good E){s:ASt}{l:Int}(hl:i64 (-l)):WF E 90 [iv l] (fun r s'=>r=iv (l.natAbs:Int)∧s=s') s:=by
  refine hE.go comp90 (by decide) rfl ?_
  have e:max l (-l)=(l.natAbs:Int):=by omega
  simp only[c90,c90o0,c90o1,un_neg _ l hl,max_i64,e,Qa,Qb,Qc,Qd,Qe,Qf,Qg,Qh,Qi,Qj,Qk,Ql,Qm,Qn,true_and,and_true,Qo,Qp,Qq,Qr,Qs,Qt,Qu,Qv,Qw,Qx,Qy,Qz,Ra,Rb,Rc,Rd,Re,Rf,Rg,Rh,Ri,Rj,Rk,Rl,Rm,Ya,Yb,Yc,Rn,Ro,Rp,Yd,Ye,Rq,Rs,Rt,Ru,Rv,Rw,Rx]
theorem place_ok{E:Env}(hE:Good E){s:ASt}{l:Int}(hl:l.natAbs<1000000000):WF E 91 [iv l] (fun r s'=>r=iv (place l:Int)∧s=s') s:=by
  refine hE.go comp91 (by decide) rfl ?_
  have e1:=bin_mul Try.prog 3 2 l ⟨by omega,by omega⟩
  have e2:=bin_sub Try.prog 3 1 (2 * l) ⟨by omega,by omega⟩
  by_cases h:l<0
  · have e3:(1:Int) - 2 * l=(place l:Int):=by unfold place;rw[if_pos h];omega
    simp only[c91,c91o0,c91o1,c91o2,decide_eq_true h,e1,e2,e3,Qa,Qb,Qc,Qd,Qe,Qf,Qg,Qh,Qi,Qj,Qk,Ql,Qm,Qn,true_and,and_true,Qo,Qp,Qq,Qr,Qs,Qt,Qu,Qv,Qw,Qx,Qy,Qz,Ra,Rb,Rc,Rd,Re,Rf,Rg,Rh,Ri,Rj,Rk,Rl,Rm,Ya,Yb,Yc,Rn,Ro,Rp,Yd,Ye,Rq,Rs,Rt,Ru,Rv,Rw,Rx]
  · have e3:(2:Int) * l=(place l:Int):=by unfold place;rw[if_neg h];omega
    simp only[c91,c91o0,c91o1,c91o3,decide_eq_false h,e1,Qa,Qb,Qc,Qd,Qe,Qf,Qg,Qh,Qi,Qj,Qk,Ql,Qm,Qn,true_and,and_true,Qo,Qp,Qq,Qr,Qs,Qt,Qu,Qv,Qw,Qx,Qy,Qz,Ra,Rb,Rc,Rd,Re,Rf,Rg,Rh,Ri,Rj,Rk,Rl,Rm,Ya,Yb,Yc,Rn,Ro,Rp,Yd,Ye,Rq,Rs,Rt,Ru,Rv,Rw,Rx]
    rw[e3]
def isV(val:List Int)(l:Int):Int:=if l<0 then -(val.getD l.natAbs 0)else val.getD l.natAbs 0
def Val3(val:List Int):Prop:=∀x∈val,x=-1∨x=0∨x=1
theorem Val3.get{val:List Int}(h:Val3 val)(k:Nat):val.getD k 0=-1∨val.getD k 0=0∨val.getD k 0=1:=by
  rw[List.getD_eq_getElem?_getD]
  cases hk:val[k]? with
  | none=>exact .inr (.inl rfl)
  | some x=>exact h x (List.mem_of_getElem? hk)
theorem getD_get{α:Type}{l:List α}{k:Nat}{d:α}(h:k<l.length):l[k]? = some (l.getD k d):=by
  rw[List.getD_eq_getElem?_getD,List.getElem?_eq_getElem h];rfl
theorem is_ok{E:Env}(hE:Good E){ow:Ow}{s:ASt}{p:Nat}{x:Sf}{v:Sv}(h:SAt ow s p x v)(h3:Val3 v.value){l:Int}(hl:l.natAbs<v.value.length)(hs:v.value.length<1000000000):WF E 77 [ptrA p,iv l] (fun r s'=>r=iv (isV v.value l)∧s=s') s:=by
  refine hE.go comp77 (by decide) rfl ?_
  have hg:=getD_get (d:=(0:Int)) hl
  have g1:=h.value.addr Try.underlying23 sz3 (k:=l.natAbs) (by rw[List.length_map];exact hl)
  have g2:=h.value.get (t:=3) ag3 (k:=l.natAbs) (get_ivs hg)
  have hv:=h3.get l.natAbs
  unfold isV
  by_cases hn:l<0
  · have e : -l = (l.natAbs : Int) := by omega
    have eN:=un_neg Try.prog l ⟨by omega,by omega⟩
    rw[e]at eN
    have e2:=un_neg Try.prog (v.value.getD l.natAbs 0) ⟨by omega,by omega⟩
    rw[if_pos hn]
    simp only[c77,c77o0,c77o1,c77o2,decide_eq_true hn,ptrA,nilCheck_ptr,fa91_2,h.ld_val,eN,g1,g2,e2,Qa,Qb,Qc,Qd,Qe,Qf,Qg,Qh,Qi,Qj,Qk,Ql,Qm,Qn,true_and,and_true,Qo,Qp,Qq,Qr,Qs,Qt,Qu,Qv,Qw,Qx,Qy,Qz,Ra,Rb,Rc,Rd,Re,Rf,Rg,Rh,Ri,Rj,Rk,Rl,Rm,Ya,Yb,Yc,Rn,Ro,Rp,Yd,Ye,Rq,Rs,Rt,Ru,Rv,Rw,Rx]
  · have e:l=(l.natAbs:Int):=by omega
    rw[if_neg hn]
    have g1':indexAddrA Try.prog 23 x.val (iv l)=some (addrOf x.val l.natAbs):=by rw[← g1];congr 2;
    simp only[c77,c77o0,c77o1,c77o3,decide_eq_false hn,ptrA,nilCheck_ptr,fa91_2,h.ld_val,g1',g2,Qa,Qb,Qc,Qd,Qe,Qf,Qg,Qh,Qi,Qj,Qk,Ql,Qm,Qn,true_and,and_true,Qo,Qp,Qq,Qr,Qs,Qt,Qu,Qv,Qw,Qx,Qy,Qz,Ra,Rb,Rc,Rd,Re,Rf,Rg,Rh,Ri,Rj,Rk,Rl,Rm,Ya,Yb,Yc,Rn,Ro,Rp,Yd,Ye,Rq,Rs,Rt,Ru,Rv,Rw,Rx]
def assignV(v:Sv)(l:Int)(w:Option Nat):Sv:={ v with value:=v.value.set l.natAbs (sgn l),level:=v.level.set l.natAbs (v.limits.length:Int),why:=v.why.set l.natAbs w,trail:=v.trail++[l] }
structure Siz(n:Nat)(v:Sv):Prop where
  small:n<100000000
  w:v.watches.length=2 * n+2
  value:v.value.length=n+1
  level:v.level.length=n+1
  why:v.why.length=n+1
  heat:v.heat.length=n+1
  phase:v.phase.length=n+1
  trail:v.trail.length≤n
  limits:v.limits.length≤n
theorem assign_ok{E:Env}(hE:Good E){ow:Ow}{s:ASt}{p:Nat}{x:Sf}{v:Sv}(h:SAt ow s p x v){n:Nat}(hz:Siz n v){l:Int}(hl:VL n l)(w:Option Nat):
    WF E 71 [ptrA p,iv l,whyA w] (fun _ s'=>∃ow' x',SAt ow' s' p x' (assignV v l w)∧Step (mineB p) ow s ow' s'∧x'.w=x.w) s:=by
  have hn:=hz.small
  obtain⟨hl0,hl1⟩:=hl
  have hq:=bin_quo_self (n:=n) (by omega) ⟨hl0,hl1⟩
  have hk:l.natAbs<n+1:=by omega
  refine hE.go comp71 (by decide) rfl ?_
  simp only[c71,c71o0,Qa,Qb,Qc,Qd,Qe,Qf,Qg,Qh,Qi,Qj,Qk,Ql,Qm,Qn,true_and,and_true,Qo,Qp,Qq,Qr,Qs,Qt,Qu,Qv,Qw,Qx,Qy,Qz,Ra,Rb,Rc,Rd,Re,Rf,Rg,Rh,Ri,Rj,Rk,Rl,Rm,Ya,Yb,Yc,Rn,Ro,Rp,Yd,Ye,Rq,Rs,Rt,Ru,Rv,Rw,Rx]
  refine(variable_ok hE (l:=l) ⟨by omega,by omega⟩).mono ?_
  rintro _ _ ⟨rfl,rfl⟩
  obtain⟨s1,a1,a2,a3,a4⟩:=h.put_value (k:=l.natAbs) (by rw[hz.value];exact hk) (sgn l)
  obtain⟨s2,b1,b2,b3,b4⟩:=a2.put_level (k:=l.natAbs) (by show l.natAbs<v.level.length;rw[hz.level];exact hk) (v.limits.length:Int)
  obtain⟨s3,d1,d2,d3,d4⟩:=b2.put_why (k:=l.natAbs) (by show l.natAbs<v.why.length;rw[hz.why];exact hk) w
  have i1:=h.value.addr Try.underlying23 sz3 (k:=l.natAbs) (by rw[List.length_map,hz.value];exact hk)
  have i2:=h.level.addr Try.underlying23 sz3 (k:=l.natAbs) (by rw[List.length_map,hz.level];exact hk)
  have i3:=h.why.addr Try.underlying89 sz92 (k:=l.natAbs) (by rw[List.length_map,hz.why];exact hk)
  have ln:∀s,lenA Try.prog s 23 x.lim=some (iv (v.limits.length:Int)):=fun s=>by
    have:=h.limits.len Try.underlying23 s
    rw[List.length_map]at this
    exact this
  have b:=bld_one (P:=Try.prog) (t:=23) (v:=iv l) Try.underlying23 sz3 zr3 rfl rfl
  have hms:∀ (m:Nat) (i:Nat),Made.val i (.slice m)=.slice (some (i,0)) m (some m):=fun _ _=>rfl
  have hst:Step (mineB p) ow s3 (ext ow s3.next (0,0,0)) (newObj s3 (mkRow 3 1 [iv l])):=Step.new _ ow s3 _ _
  have d2':=d2.keep (Step.new (fun _=>False) ow s3 (mkRow 3 1 [iv l]) (0,0,0)) (fun _ q=>q.elim)
  obtain⟨u,s5,s6,ow',f1,f2,f3,f4⟩:=d2'.push_trail (by show v.trail.length≤_;have:=hz.trail;omega) l (q:=s3.next) (ty:=3) (sz':=1) (by rw[heap_new,if_pos rfl])
  have ld:=d2'.ld_tr
  have ld3:=d2.ld_tr
  simp only[c71o1,ptrA,nilCheck_ptr,fa91_2,fa91_3,fa91_4,fa91_8,h.ld_val,h.ld_lev,h.ld_why,h.ld_lim,hq,ln,i1,i2,i3,on2,a1,b1,d1,withV,again_r,sameA_some,Qa,Qb,Qc,Qd,Qe,Qf,Qg,Qh,Qi,Qj,Qk,Ql,Qm,Qn,true_and,and_true,Qo,Qp,Qq,Qr,Qs,Qt,Qu,Qv,Qw,Qx,Qy,Qz,Ra,Rb,Rc,Rd,Re,Rf,Rg,Rh,Ri,Rj,Rk,Rl,Rm,Ya,Yb,Yc,Rn,Ro,Rp,Yd,Ye,Rq,Rs,Rt,Ru,Rv,Rw,Rx]
  have hself:eqA (iv (v.limits.length:Int)) (iv (v.limits.length:Int))=true:=by simp[eqA,sameKind,eqI_eq]
  simp only[hself,c71o2,ptrA,nilCheck_ptr,fa91_7,ld3,b,hms,f1,on2,f2,withV,Qa,Qb,Qc,Qd,Qe,Qf,Qg,Qh,Qi,Qj,Qk,Ql,Qm,Qn,true_and,and_true,Qo,Qp,Qq,Qr,Qs,Qt,Qu,Qv,Qw,Qx,Qy,Qz,Ra,Rb,Rc,Rd,Re,Rf,Rg,Rh,Ri,Rj,Rk,Rl,Rm,Ya,Yb,Yc,Rn,Ro,Rp,Yd,Ye,Rq,Rs,Rt,Ru,Rv,Rw,Rx]
  exact⟨ow',_,f3,(a3.trans (b3.trans d3)).trans (hst.trans (f4.n (by decide) (by decide) (by decide))),rfl⟩
theorem SliceAt.elem{b:Nat}{s:ASt}{u:AV}{cs:List AV}(h:SliceAt b s u cs){t e:TypeId}(ht:Try.prog.underlying t=some (.slice e))(hs:sizeT Try.prog e=some 1)(ha:aggT Try.prog e=some false){k:Nat}{y:AV}(hk:cs[k]? = some y):
    indexAddrA Try.prog t u (iv (k:Int))=some (addrOf u k)∧loadV Try.prog s e (addrOf u k)=some y:=by
  obtain⟨a,cap,rfl,hc⟩:=h
  obtain⟨i,o,rfl,_,hl⟩:=hc k y hk
  exact⟨idx_slice ht hs (lt_of_get hk),load_one ha (by rw[Nat.mul_one];exact hl)⟩
theorem SliceAt.len{b:Nat}{s:ASt}{u:AV}{cs:List AV}(h:SliceAt b s u cs){t e:TypeId}(ht:Try.prog.underlying t=some (.slice e))(s':ASt):lenA Try.prog s' t u=some (iv (cs.length:Int)):=by
  obtain⟨a,cap,rfl,_⟩:=h
  exact len_slice ht
def wPut(ws:List (List Nat))(k c:Nat):List (List Nat):=ws.set k (ws.getD k []++[c])
theorem wPut_len(ws:List (List Nat))(k c:Nat):(wPut ws k c).length=ws.length:=List.length_set
def Short(ws:List (List Nat)):Prop:=∀L∈ws,L.length≤100000000
def undoV(v:Sv)(l:Int):Sv:={ v with phase:=v.phase.set l.natAbs (v.value.getD l.natAbs 0),value:=v.value.set l.natAbs 0,why:=v.why.set l.natAbs none }
def backTo(v:Sv)(at_ level:Nat):Sv:={ (v.trail.drop at_).foldl undoV v with trail:=v.trail.take at_,limits:=v.limits.take level,head:=at_ }
def backV(v:Sv)(level:Nat):Sv:=if v.limits.length≤level then v else backTo v (v.limits.getD level 0).toNat level
theorem foldl_undo:∀ (l:List Int)(v:Sv),(l.foldl undoV v).trail=v.trail∧(l.foldl undoV v).limits=v.limits∧(l.foldl undoV v).value.length=v.value.length∧(l.foldl undoV v).phase.length=v.phase.length∧(l.foldl undoV v).why.length=v.why.length
  | [],v=>⟨rfl,rfl,rfl,rfl,rfl⟩
  | x::l,v=>by
    obtain⟨h1,h2,h3,h4,h5⟩:=foldl_undo l (undoV v x)
    exact⟨h1,h2,h3.trans List.length_set,h4.trans List.length_set,h5.trans List.length_set⟩
theorem back_in{E:Env}(hE:Good E){p:Nat}{tr:List Int}{n at_:Nat}(hn:n<100000000)(htr:∀l∈tr,VL n l)(htl:tr.length≤n)(hat:at_≤tr.length){trv:AV}(v1 v2:AV){ow:Ow}{Q:ARes→Prop}:
    ∀ (l : List Int) (k : Nat) (s : ASt) (x : Sf) (v : Sv) (x3 x4 x9 : AV), (tr.drop at_).drop k = l → k ≤ tr.length - at_ → SAt ow s p x v → v.trail = tr → x.tr = trv → v.value.length = n + 1 → v.phase.length = n + 1 → v.why.length = n + 1 →
      (∀s' x' y3 y4 y8 y9,SAt ow s' p x' (l.foldl undoV v)→x'.tr=trv→x'.w=x.w→Step (mineB p) ow s ow s'→Q ⟨.exit 0,[ptrA p,v1,v2,y3,y4,.bool false,restV trv at_,iv ((tr.length - at_:Nat):Int),y8,y9],[],s'⟩) →
      WC E none (.loop c63l8) Q [ptrA p,v1,v2,x3,x4,.bool false,restV trv at_,iv ((tr.length - at_:Nat):Int),iv (k:Int),x9] [] s:=by
  intro l
  induction l with
  | nil =>
    intro k s x v x3 x4 x9 hd hk h h1 h2 h3 h4 h5 hq
    have hlk:k=tr.length - at_:=by
      have:=congrArg List.length hd
      simp at this
      omega
    subst hlk
    refine WC.loop' ?_
    simp only[c63l8,c63o3,Int.lt_irrefl,decide_false,Qa,Qb,Qc,Qd,Qe,Qf,Qg,Qh,Qi,Qj,Qk,Ql,Qm,Qn,true_and,and_true,Qo,Qp,Qq,Qr,Qs,Qt,Qu,Qv,Qw,Qx,Qy,Qz,Ra,Rb,Rc,Rd,Re,Rf,Rg,Rh,Ri,Rj,Rk,Rl,Rm,Ya,Yb,Yc,Rn,Ro,Rp,Yd,Ye,Rq,Rs,Rt,Ru,Rv,Rw,Rx]
    exact hq s x _ _ _ _ h h2 rfl (Step.refl _ _ _)
  | cons y l ih =>
    intro k s x v x3 x4 x9 hd hk h h1 h2 h3 h4 h5 hq
    obtain⟨hlt,hy,hd'⟩:=drop_facts hd
    rw[List.length_drop]at hlt
    have hyt:y∈tr:=List.mem_of_mem_drop (List.mem_of_getElem? hy)
    obtain⟨hy0,hy1⟩:=htr y hyt
    have hkk:decide ((k:Int)<((tr.length - at_:Nat):Int))=true:=decide_eq_true (by omega)
    have e3:=bin_add Try.prog 3 (k:Int) 1 ⟨by omega,by omega⟩
    have hcast:((k:Int)+1)=((k+1:Nat):Int):=by omega
    have hb:=h.trail
    rw[h1]at hb
    obtain⟨_,hrest⟩:=hb.rest Try.underlying23 sz3 (k:=at_) (by rw[List.length_map];exact hat)
    rw[h2,← List.map_drop]at hrest
    obtain⟨i1,i2⟩:=hrest.elem Try.underlying23 sz3 ag3 (get_ivs hy)
    have hkv:y.natAbs<n+1:=by omega
    have hg:=getD_get (d:=(0:Int)) (show y.natAbs<v.value.length by omega)
    obtain⟨s1,a1,a2,a3,a4⟩:=h.put_phase (k:=y.natAbs) (by omega) (v.value.getD y.natAbs 0)
    obtain⟨s2,b1,b2,b3,b4⟩:=a2.put_value (k:=y.natAbs) (by show y.natAbs<v.value.length;omega) 0
    obtain⟨s3,d1,d2,d3,d4⟩:=b2.put_why (k:=y.natAbs) (by show y.natAbs<v.why.length;omega) none
    have j1:=h.value.addr Try.underlying23 sz3 (k:=y.natAbs) (by rw[List.length_map];omega)
    have j2:=h.value.get (t:=3) ag3 (k:=y.natAbs) (get_ivs hg)
    have j3:=h.phase.addr Try.underlying23 sz3 (k:=y.natAbs) (by rw[List.length_map];omega)
    have j4:=h.why.addr Try.underlying89 sz92 (k:=y.natAbs) (by rw[List.length_map];omega)
    refine WC.loop' ?_
    generalize hW:WC E none (CCode.loop c63l8) Q=W
    simp only[c63l8,c63o3,c63o4,c63o5,hkk,i1,i2,Qa,Qb,Qc,Qd,Qe,Qf,Qg,Qh,Qi,Qj,Qk,Ql,Qm,Qn,true_and,and_true,Qo,Qp,Qq,Qr,Qs,Qt,Qu,Qv,Qw,Qx,Qy,Qz,Ra,Rb,Rc,Rd,Re,Rf,Rg,Rh,Ri,Rj,Rk,Rl,Rm,Ya,Yb,Yc,Rn,Ro,Rp,Yd,Ye,Rq,Rs,Rt,Ru,Rv,Rw,Rx]
    refine(variable_ok hE (l:=y) ⟨by omega,by omega⟩).mono ?_
    rintro _ _ ⟨rfl,rfl⟩
    have hwn:whyA none=.ptr none:=rfl
    rw[hwn]at d1
    simp only[c63o6,ptrA,nilCheck_ptr,fa91_6,fa91_2,fa91_4,h.ld_ph,h.ld_val,h.ld_why,j1,j2,j3,j4,on2,a1,b1,d1,withV,c63o7,e3,hcast,Qa,Qb,Qc,Qd,Qe,Qf,Qg,Qh,Qi,Qj,Qk,Ql,Qm,Qn,true_and,and_true,Qo,Qp,Qq,Qr,Qs,Qt,Qu,Qv,Qw,Qx,Qy,Qz,Ra,Rb,Rc,Rd,Re,Rf,Rg,Rh,Ri,Rj,Rk,Rl,Rm,Ya,Yb,Yc,Rn,Ro,Rp,Yd,Ye,Rq,Rs,Rt,Ru,Rv,Rw,Rx]
    rw[← hW]
    have hst:Step (mineB p) ow s ow s3:=a3.trans (b3.trans d3)
    refine ih (k+1) s3 x (undoV v y) _ _ _ ?_ (by omega) d2 h1 h2 ?_ ?_ ?_ fun s' x' y3 y4 y8 y9 q1 q2 q4 q3=>hq s' x' y3 y4 y8 y9 q1 q2 q4 (hst.trans q3)
    · exact hd'
    · show(v.value.set _ _).length=_;rw[List.length_set];exact h3
    · show(v.phase.set _ _).length=_;rw[List.length_set];exact h4
    · show(v.why.set _ _).length=_;rw[List.length_set];exact h5
structure Fit(n:Nat)(v:Sv):Prop where
  siz:Siz n v
  val:Val3 v.value
  lits:∀l∈v.trail,VL n l
  lims:∀x∈v.limits,0≤x∧x≤v.trail.length
theorem back_ok'{E:Env}(hE:Good E){ow:Ow}{s:ASt}{p:Nat}{x:Sf}{v:Sv}(h:SAt ow s p x v){n:Nat}(hf:Fit n v){level:Nat}(hlev:level<100000000):
    WF E 63 [ptrA p,iv (level:Int)] (fun _ s'=>∃x',SAt ow s' p x' (backV v level)∧Step (mineB p) ow s ow s'∧x'.w=x.w) s:=by
  have hz:=hf.siz
  have hn:=hz.small
  have hll:=hz.limits
  have ln:∀s,lenA Try.prog s 23 x.lim=some (iv (v.limits.length:Int)):=fun s=>by
    have:=h.limits.len Try.underlying23 s
    rw[List.length_map]at this
    exact this
  refine hE.go comp63 (by decide) rfl ?_
  by_cases hle:v.limits.length≤level
  · have hd : decide ((v.limits.length : Int) ≤ (level : Int)) = true := decide_eq_true (by omega)
    have hb:backV v level=v:=if_pos hle
    simp only[c63,c63o0,ptrA,nilCheck_ptr,fa91_8,h.ld_lim,ln,hd,Qa,Qb,Qc,Qd,Qe,Qf,Qg,Qh,Qi,Qj,Qk,Ql,Qm,Qn,true_and,and_true,Qo,Qp,Qq,Qr,Qs,Qt,Qu,Qv,Qw,Qx,Qy,Qz,Ra,Rb,Rc,Rd,Re,Rf,Rg,Rh,Ri,Rj,Rk,Rl,Rm,Ya,Yb,Yc,Rn,Ro,Rp,Yd,Ye,Rq,Rs,Rt,Ru,Rv,Rw,Rx]
    rw[hb]
    exact⟨x,h,Step.refl _ _ _,rfl⟩
  · have hd : decide ((v.limits.length : Int) ≤ (level : Int)) = false := decide_eq_false (by omega)
    have hb:backV v level=backTo v (v.limits.getD level 0).toNat level:=if_neg hle
    have hg:=getD_get (d:=(0:Int)) (show level<v.limits.length by omega)
    have hlim:=hf.lims _ (List.mem_of_getElem? hg)
    have hat:v.limits.getD level 0=(((v.limits.getD level 0).toNat:Nat):Int):=by omega
    rw[hb]
    generalize hae:(v.limits.getD level 0).toNat=at_ at hat
    rw[hat]at hg hlim
    have hatl:at_≤v.trail.length:=by omega
    have i1:=h.limits.addr Try.underlying23 sz3 (k:=level) (by rw[List.length_map];omega)
    have i2:=h.limits.get (t:=3) ag3 (k:=level) (get_ivs hg)
    obtain⟨r1,r2⟩:=h.trail.rest Try.underlying23 sz3 (k:=at_) (by rw[List.length_map];exact hatl)
    have r3:=r2.len Try.underlying23 s
    rw[← List.map_drop,List.length_map,List.length_drop]at r3
    simp only[c63,c63o0,c63o1,c63o2,ptrA,nilCheck_ptr,fa91_8,fa91_7,h.ld_lim,h.ld_tr,ln,hd,i1,i2,r1,r3,Qa,Qb,Qc,Qd,Qe,Qf,Qg,Qh,Qi,Qj,Qk,Ql,Qm,Qn,true_and,and_true,Qo,Qp,Qq,Qr,Qs,Qt,Qu,Qv,Qw,Qx,Qy,Qz,Ra,Rb,Rc,Rd,Re,Rf,Rg,Rh,Ri,Rj,Rk,Rl,Rm,Ya,Yb,Yc,Rn,Ro,Rp,Yd,Ye,Rq,Rs,Rt,Ru,Rv,Rw,Rx]
    refine back_in hE (p:=p) hn hf.lits hz.trail hatl _ _ (v.trail.drop at_) 0 s x v _ _ _ rfl (Nat.zero_le _) h rfl rfl hz.value hz.phase hz.why ?_
    intro s1 x1 y3 y4 y8 y9 k1 k2 k4 k3
    obtain⟨f1,f2,_,_,_⟩:=foldl_undo (v.trail.drop at_) v
    generalize hv1:(v.trail.drop at_).foldl undoV v=v1 at k1 f1 f2
    have hbt:backTo v at_ level={ v1 with trail:=v.trail.take at_,limits:=v.limits.take level,head:=(at_:Int) }:=by unfold backTo;rw[hv1]
    have c1:=k1.trail.cut_op Try.underlying23 sz3 (k:=at_) (by rw[List.length_map,f1];exact hatl)
    have c2:=k1.limits.cut_op Try.underlying23 sz3 (k:=level) (by rw[List.length_map,f2];omega)
    have c1':=k1.trail.cut (k:=at_) (by rw[List.length_map,f1];exact hatl)
    have c2':=k1.limits.cut (k:=level) (by rw[List.length_map,f2];omega)
    rw[← List.map_take]at c1' c2'
    obtain⟨s2,a1,a2,a3,a4⟩:=k1.set_trail (y:=v1.trail.take at_) c1'
    have c2'':Buf ow (p,10,0) s2 (cutV x1.lim level) (ivs (v1.limits.take level)):=by
      have:=a2.limits.cut (k:=level) (by rw[List.length_map];show level≤v1.limits.length;rw[f2];omega)
      rw[← List.map_take]at this
      exact this
    have c2o:=a2.limits.cut_op Try.underlying23 sz3 (k:=level) (by rw[List.length_map];show level≤v1.limits.length;rw[f2];omega)
    obtain⟨s3,b1,b2,b3,b4⟩:=a2.set_limits (y:=v1.limits.take level) c2''
    obtain⟨s4,d1,d2,d3,d4⟩:=b2.set_head (at_:Int)
    have hself:eqA (cutV x1.lim level) (cutV x1.lim level)=true:=c2'.self
    simp only[if_true,c63o9,ptrA,nilCheck_ptr,fa91_7,fa91_8,fa91_9,k1.ld_tr,k1.ld_lim,c1,c2,on2,a1,b1,d1,withV,again_r,sameA_some,c2o,hself,Qa,Qb,Qc,Qd,Qe,Qf,Qg,Qh,Qi,Qj,Qk,Ql,Qm,Qn,true_and,and_true,Qo,Qp,Qq,Qr,Qs,Qt,Qu,Qv,Qw,Qx,Qy,Qz,Ra,Rb,Rc,Rd,Re,Rf,Rg,Rh,Ri,Rj,Rk,Rl,Rm,Ya,Yb,Yc,Rn,Ro,Rp,Yd,Ye,Rq,Rs,Rt,Ru,Rv,Rw,Rx]
    rw[hbt]
    rw[f1,f2]at d2
    exact⟨_,d2,k3.trans (a3.trans (b3.trans d3)),k4⟩
def keptV(u:AV)(m:Nat):AV:=match u with
  | .slice (some (i,o)) n _=>.slice (some (i,o)) m (some n)
  | _=>.slice none 0 (some 0)
theorem Buf.kept{ow:Ow}{T:Tag}{s:ASt}{u:AV}{cs:List AV}(h:Buf ow T s u cs){m:Nat}(hm:m≤cs.length):Buf ow T s (keptV u m) (cs.take m):=by
  rcases h with⟨rfl,rfl⟩ | ⟨i,o,cap,r,rfl,h2,h3,h4,h5⟩
  · have:m=0:=by simpa using hm
    subst this
    exact .inl ⟨rfl,rfl⟩
  · have hl:(cs.take m).length=m:=by rw[List.length_take];omega
    refine .inr ⟨i,o,some cs.length,r,by rw[hl];rfl,h2,fun j u hj=>?_,by omega,by rw[hl];exact⟨hm,h4⟩⟩
    rw[List.getElem?_take]at hj
    split at hj
    · exact h3 j u hj
    · cases hj
theorem Buf.kept_op{ow:Ow}{T:Tag}{s:ASt}{u:AV}{cs:List AV}(h:Buf ow T s u cs){t e:TypeId}(ht:Try.prog.underlying t=some (.slice e))(hs:sizeT Try.prog e=some 1):
    sliceOpnds Try.prog t false true true s [u,iv 0,iv (cs.length:Int)]=some (keptV u 0):=by
  have hb0:∀m,boundA (.int .i64 0) m=some 0:=fun m=>by simp[boundA,idxOf,natOf,guardB,ble_of (Nat.zero_le m)]
  rcases h with⟨rfl,rfl⟩ | ⟨i,o,cap,r,rfl,h2,h3,h4,h5⟩
  · have hb:boundA (.int .i64 0) 0=some 0:=rfl
    show sliceA Try.prog s t (.slice none 0 (some 0)) none (some (iv 0)) (some (iv (([]:List AV).length:Int)))=_
    simp[sliceA,ht,hs,hb,guardB,keptV]
  · cases cap with
    | some c =>
      have hb:boundA (iv (cs.length:Int)) c=some cs.length:=by simp[boundA,idxOf,natOf_nat,guardB,ble_of h5.1]
      show sliceA Try.prog s t (.slice (some (i,o)) cs.length (some c)) none (some (iv 0)) (some (iv (cs.length:Int)))=_
      cases hz:Nat.beq cs.length 0<;>simp[sliceA,ht,hs,hb,hb0,guardB,hz,keptV]
    | none =>
      obtain⟨h5,h6⟩:=h5
      subst h5
      have hb:boundA (iv (cs.length:Int)) r.n=some cs.length:=by simp[boundA,idxOf,natOf_nat,guardB,ble_of (show cs.length≤r.n by omega)]
      have hrow:rowAt s i=some r:=by simp[rowAt,h2.get]
      show sliceA Try.prog s t (.slice (some (i,0)) cs.length none) none (some (iv 0)) (some (iv (cs.length:Int)))=_
      cases hz:Nat.beq cs.length 0<;>simp[sliceA,ht,hs,hrow,h2.sz,guardB,hb,hb0,ble_of (Nat.zero_le r.n),show Nat.beq 1 0=false from rfl,blt_of h6,hz,keptV]
theorem Buf.kept_put {ow : Ow} {T : Tag} {s : ASt} {u : AV} {cs : List AV} (h : Buf ow T s u cs) {st e : TypeId} {by_ : Nat} (ht : Try.prog.underlying st = some (.slice e)) (hs : sizeT Try.prog e = some 1) (hb : bytesT Try.prog e = some by_) (hby : by_ ≤ 100) (hx : isSliceOrStr Try.prog st = true)
    (hl:cs.length≤1000000000) {m:Nat} {add:List AV} (hm:m+add.length≤cs.length) (hc:allCells add=true) {w:AV} {b:Nat} (hw:SliceAt b s w add):
    ∃s',appendA Try.prog s [st,st] [keptV u m,w]=some (keptV u (m+add.length),s')∧Buf ow T s' u (cs.take m++add++cs.drop (m+add.length))∧Step (· = T) ow s ow s'∧s'.next=s.next:=by
  have hsrc:srcCells Try.prog s e 1 w=some (add.length,add)∧∃aw cw,w=.slice aw add.length cw:=by
    obtain⟨aw,cw,rfl,hcw⟩:=hw
    refine⟨?_,aw,cw,rfl⟩
    cases add with
    | nil=>cases aw with
      | none=>rfl
      | some io=>obtain⟨i,o⟩:=io;rfl
    | cons y add=>exact SliceAt.src hcw rfl (by simp)
  obtain⟨hsrc,aw,cw,rfl⟩:=hsrc
  have hmul:(m+add.length) * by_≤(m+add.length) * 100:=Nat.mul_le_mul_left _ hby
  rcases h with⟨rfl,rfl⟩ | ⟨i,o,cap,r,rfl,h2,h3,h4,h5⟩
  · have h0 : m + add.length ≤ 0 := hm
    have hm0:m=0:=by omega
    have ha0:add=[]:=List.length_eq_zero_iff.1 (by omega)
    subst hm0;subst ha0
    refine⟨s,?_,.inl ⟨rfl,rfl⟩,Step.refl _ _ _,rfl⟩
    show appendA Try.prog s [st,st] [.slice none 0 (some 0),_]=_
    rw[appendA_eq ht hs hb (by decide) hx hsrc hc (by simp) (by simp)]
    rfl
  · have happ:=appendA_eq (st:=st) (xt:=st) (a:=some (i,o)) (n:=m) (cap:=some cs.length) ht hs hb (by decide) hx hsrc hc (by omega) (by omega)
    show ∃s',appendA Try.prog s [st,st] [.slice (some (i,o)) m (some cs.length),.slice aw add.length cw]=some (.slice (some (i,o)) (m+add.length) (some cs.length),s')∧_
    rw[happ]
    simp only[appTo,appExact,ble_of hm,cond_true]
    cases ha:add with
    | nil =>
      refine⟨s,rfl,.inr ⟨i,o,cap,r,by simp,h2,fun k u hk=>?_,by simpa using h4,by simpa using h5⟩,Step.refl _ _ _,rfl⟩
      refine h3 k u ?_
      simpa using hk
    | cons y ys =>
      rw[← ha]
      obtain⟨s',g1,g2,g3,g4⟩:=h2.store (o:=o+m * 1) (vs:=add) (by rw[ha];simp) (by omega) hc
      have hlen:(cs.take m++add++cs.drop (m+add.length)).length=cs.length:=by simp;omega
      refine⟨s',by rw[g1];rfl,.inr ⟨i,o,cap,_,by rw[hlen],g2,fun k u hk=>?_,by rw[hlen];exact h4,by rw[hlen];exact h5⟩,g3,g4⟩
      show(Tree.fill r.c (o+m * 1) add).get (o+k)=some u
      rw[Nat.mul_one]
      have hmt:(cs.take m).length=m:=by rw[List.length_take];omega
      rw[List.append_assoc]at hk
      rcases Nat.lt_or_ge k m with h' | h'
      · rw [fill_off (by omega)]
        rw[List.getElem?_append_left (by omega),List.getElem?_take_of_lt h']at hk
        exact h3 k u hk
      · rw [List.getElem?_append_right (by omega), hmt] at hk
        rcases Nat.lt_or_ge (k - m) add.length with h'' | h''
        · rw [List.getElem?_append_left h''] at hk
          rw[show o+k=o+m+(k - m) by omega]
          exact fill_get hk
        · rw [List.getElem?_append_right h'', List.getElem?_drop] at hk
          rw[Tree.get_fill,if_neg (by omega)]
          refine h3 k u ?_
          rw[← hk]
          congr 1
          omega
theorem SAt.watch_buf{ow:Ow}{s:ASt}{p:Nat}{x:Sf}{v:Sv}(h:SAt ow s p x v){k:Nat}{L:List Nat}(hk:v.watches[k]? = some L):
    ∃u,indexAddrA Try.prog 88 x.w (iv (k:Int))=some (addrOf x.w k)∧loadV Try.prog s 89 (addrOf x.w k)=some u∧Buf ow (p,2,k) s u (clss L):=by
  obtain⟨us,w1,w2,w3⟩:=h.w
  obtain⟨u,hu1,hu2⟩:=w3 k L hk
  have hkl:=lt_of_get hk
  exact⟨u,w2.addr Try.underlying88 sz89 (by omega),w2.get ag89 hu1,hu2⟩
theorem SAt.watch_put{ow:Ow}{s s':ASt}{p:Nat}{x:Sf}{v:Sv}(h:SAt ow s p x v){k:Nat}{L L':List Nat}(hk:v.watches[k]? = some L){u:AV}(hu:loadV Try.prog s 89 (addrOf x.w k)=some u)(hb:Buf ow (p,2,k) s' u (clss L'))(st:Step (· = (p,2,k)) ow s ow s')(hn:s'.next=s.next):
    SAt ow s' p x { v with watches:=v.watches.set k L' }∧loadV Try.prog s' 89 (addrOf x.w k)=some u:=by
  obtain⟨us,w1,w2,w3⟩:=h.w
  have hkl:=lt_of_get hk
  obtain⟨u0,hu1,hu2⟩:=w3 k L hk
  have e:u0=u:=by
    have:=w2.get ag89 hu1
    rw[hu]at this
    injection this with this
    exact this.symm
  subst e
  have hm:∀a i,(a,i)≠(2,k)→¬ ((p,a,i):Tag)=(p,2,k):=fun a i ha e=>by
    injection e with _ e
    exact ha e
  have hm':∀a i,a≠2→¬ ((p,a,i):Tag)=(p,2,k):=fun a i ha=>tne ha
  have hlt:=h.lt
  have w2':Buf ow (p,1,0) s' x.w us:=w2.step st (hm' 1 0 (by decide))
  refine⟨{ box:=h.box.step st h.tag h.lt (hm' 0 0 (by decide)),tag:=h.tag,lt:=by omega,w:=?_,learned:=h.learned.step st (hm' 3 0 (by decide)),value:=h.value.step st (hm' 4 0 (by decide)),level:=h.level.step st (hm' 5 0 (by decide)),why:=h.why.step st (hm' 6 0 (by decide)),heat:=h.heat.step st (hm' 7 0 (by decide)),phase:=h.phase.step st (hm' 8 0 (by decide)),trail:=h.trail.step st (hm' 9 0 (by decide)),limits:=h.limits.step st (hm' 10 0 (by decide)),model:=h.model.step st (hm' 11 0 (by decide)),trace:=h.trace.step st (hm' 12 0 (by decide)) (hm' 13 0 (by decide)),cls:=fun c l hc=>(h.cls c l hc).step st (hm' 14 c (by decide)) (hm' 15 c (by decide)) },w2'.get ag89 hu1⟩
  refine⟨us,by rw[w1,List.length_set],w2',fun j M hj=>?_⟩
  rw[List.getElem?_set]at hj
  by_cases e:k=j
  · subst e
    rw[if_pos rfl,if_pos hkl]at hj
    injection hj with hj
    subst hj
    exact⟨u0,hu1,hb⟩
  · rw[if_neg e]at hj
    obtain⟨w,q1,q2⟩:=w3 j M hj
    exact⟨w,q1,q2.step st (hm 2 j (fun q=>by injection q with _ q;exact e q.symm))⟩
theorem SAt.clause{ow:Ow}{s:ASt}{p:Nat}{x:Sf}{v:Sv}(h:SAt ow s p x v){c:Nat}(hc:v.cl c=none){l:Clause}(hn:ClAt ow s p c l):SAt ow s p x { v with cl:=fun d=>if d=c then some l else v.cl d }:=by
  refine { box:=h.box,tag:=h.tag,lt:=h.lt,w:=h.w,learned:=h.learned,value:=h.value,level:=h.level,why:=h.why,heat:=h.heat,phase:=h.phase,trail:=h.trail,limits:=h.limits,model:=h.model,trace:=h.trace,cls:=fun d l' hd=>?_ }
  have hd:(if d=c then some l else v.cl d)=some l':=hd
  by_cases e:d=c
  · rw[if_pos e]at hd
    injection hd with hd
    subst hd
    rw[e]
    exact hn
  · rw[if_neg e]at hd
    exact h.cls d l' hd
theorem eqA_iv(a:Int):eqA (iv a) (iv a)=true:=by simp[eqA,sameKind,eqI_eq]
theorem loadV_eq{P:Program}{s s':ASt}{t:TypeId}{i k:Nat}(h:s'.heap.get i=s.heap.get i):loadV P s' t (.ptr (some (i,k)))=loadV P s t (.ptr (some (i,k))):=by
  have hr:rowAt s' i=rowAt s i:=by unfold rowAt;rw[h]
  simp only[loadV,loadN,load1,hr]
def findM(val:List Int):List Int→Nat→Option Nat
  | [],_=>none
  | x::l,k=>if 0≤isV val x then some k else findM val l (k+1)
def swapL(ls:List Int)(i j:Nat):List Int:=(ls.set i (ls.getD j 0)).set j (ls.getD i 0)
theorem swapL_len(ls:List Int)(i j:Nat):(swapL ls i j).length=ls.length:=by unfold swapL;rw[List.length_set,List.length_set]
def clPut(cl:Nat→Option Clause)(c:Nat)(l:Clause):Nat→Option Clause:=fun d=>if d=c then some l else cl d
theorem clPut_put(cl:Nat→Option Clause)(c:Nat)(l l':Clause):clPut (clPut cl c l) c l'=clPut cl c l':=by
  funext d
  unfold clPut
  by_cases h:d=c
  · rw[if_pos h,if_pos h]
  · rw[if_neg h,if_neg h,if_neg h]
theorem clPut_same(cl:Nat→Option Clause)(c:Nat)(l:Clause):clPut cl c l c=some l:=if_pos rfl
def HK(x x':Sf)(v v':Sv)(s s':ASt):Prop:=x'.w=x.w∧∀j,j<v.watches.length→v'.watches[j]? = v.watches[j]?→loadV Try.prog s' 89 (addrOf x.w j)=loadV Try.prog s 89 (addrOf x.w j)
theorem HK.refl(x:Sf)(v v':Sv)(s:ASt):HK x x v v' s s:=⟨rfl,fun _ _ _=>rfl⟩
theorem HK.ofB{ow ow':Ow}{s s':ASt}{p:Nat}{x x':Sf}{v v':Sv}(h:SAt ow s p x v)(k:Step (mineB p) ow s ow' s')(hx:x'.w=x.w):HK x x' v v' s s':=by
  refine⟨hx,fun j hj _=>?_⟩
  obtain⟨us,w1,w2,_⟩:=h.w
  have hju:us[j]? = some us[j]:=List.getElem?_eq_getElem (by omega)
  rw[w2.get ag89 hju]
  exact(w2.step k (fun q=>q.2.1 rfl)).get ag89 hju
def moveTo(v:Sv)(c:Nat)(ls:List Int)(b:Bool×Bool)(i:Nat):Sv:={ v with cl:=clPut v.cl c (swapL ls 1 i,b),watches:=wPut v.watches (place (ls.getD i 0)) c }
def ClsOk(n:Nat)(ls:List Int):Prop:=(∀l∈ls,VL n l)∧ls.length<100000000
theorem ClsOk.get{n:Nat}{ls:List Int}(h:ClsOk n ls){k:Nat}(hk:k<ls.length):VL n (ls.getD k 0):=h.1 _ (List.mem_of_getElem? (getD_get hk))
theorem mem_swap{ls:List Int}{i j:Nat}{x:Int}(hi:i<ls.length)(hj:j<ls.length)(h:x∈swapL ls i j):x∈ls:=by
  unfold swapL at h
  rcases List.mem_or_eq_of_mem_set h with h | h
  · rcases List.mem_or_eq_of_mem_set h with h | h
    · exact h
    · rw[h];exact List.mem_of_getElem? (getD_get hj)
  · rw[h];exact List.mem_of_getElem? (getD_get hi)
theorem ClsOk.swap{n:Nat}{ls:List Int}(h:ClsOk n ls){i j:Nat}(hi:i<ls.length)(hj:j<ls.length):ClsOk n (swapL ls i j):=
  ⟨fun x hx=>h.1 x (mem_swap hi hj hx),by rw[swapL_len];exact h.2⟩
theorem move_loop {E : Env} (hE : Good E) {ow : Ow} {s : ASt} {p : Nat} {x : Sf} {v : Sv} (h : SAt ow s p x v) {n : Nat} (hf : Fit n v) (hs : Short v.watches) {c : Nat} {ls : List Int} {b : Bool × Bool} (hc : v.cl c = some (ls, b)) (hl : ClsOk n ls) (h2 : 2 ≤ ls.length) {Q : ARes → Prop} :
    ∀ (l : List Int) (k : Nat) (x2 x4 x5 : AV), ls.drop k = l → 2 ≤ k → k ≤ ls.length →
      (∀y2 y3 y4 y5,findM v.value l k=none→Q ⟨.exit 0,[ptrA p,ptrA c,y2,y3,y4,y5],[],s⟩) →
      (∀i s' ow' x' y3 y4 y5,findM v.value l k=some i→i<ls.length→2≤i→SAt ow' s' p x' (moveTo v c ls b i)→Step (mine p) ow s ow' s'→HK x x' v (moveTo v c ls b i) s s'→Q ⟨.ret,[ptrA p,ptrA c,.bool true,y3,y4,y5],[],s'⟩) →
      WC E none (.loop c110l8) Q [ptrA p,ptrA c,x2,iv (k:Int),x4,x5] [] s:=by
  obtain⟨hz,h3,ht,hlim⟩:=hf
  have hn:=hz.small
  obtain⟨u,u1,u2,u3,u4,u5⟩:=h.lits hc
  have u4:Buf ow (p,15,c) s u (ivs ls):=u4
  have ul:∀s,lenA Try.prog s 23 u=some (iv (ls.length:Int)):=fun s=>by
    have:=u4.len Try.underlying23 s
    rw[List.length_map]at this
    exact this
  intro l
  induction l with
  | nil =>
    intro k x2 x4 x5 hd hk2 hk hno hyes
    have:=drop_end hd hk
    subst this
    refine WC.loop' ?_
    simp only[c110l8,c110o2,ptrA,nilCheck_ptr,fa104_0,u1,ul,Int.lt_irrefl,decide_false,Qa,Qb,Qc,Qd,Qe,Qf,Qg,Qh,Qi,Qj,Qk,Ql,Qm,Qn,true_and,and_true,Qo,Qp,Qq,Qr,Qs,Qt,Qu,Qv,Qw,Qx,Qy,Qz,Ra,Rb,Rc,Rd,Re,Rf,Rg,Rh,Ri,Rj,Rk,Rl,Rm,Ya,Yb,Yc,Rn,Ro,Rp,Yd,Ye,Rq,Rs,Rt,Ru,Rv,Rw,Rx]
    exact hno _ _ _ _ rfl
  | cons y l ih =>
    intro k x2 x4 x5 hd hk2 hk hno hyes
    obtain⟨hlt,hy,hd'⟩:=drop_facts hd
    have hll:=hl.2
    obtain⟨hy0,hy1⟩:=hl.1 y (List.mem_of_getElem? hy)
    have hkk:decide ((k:Int)<(ls.length:Int))=true:=decide_eq_true (by omega)
    have e3:=bin_add Try.prog 3 (k:Int) 1 ⟨by omega,by omega⟩
    have hcast:((k:Int)+1)=((k+1:Nat):Int):=by omega
    have i1:=u4.addr Try.underlying23 sz3 (k:=k) (by rw[List.length_map];exact hlt)
    have i2:=u4.get (t:=3) ag3 (k:=k) (get_ivs hy)
    have j1:=u4.addr Try.underlying23 sz3 (k:=1) (by rw[List.length_map];omega)
    have hg1:=getD_get (d:=(0:Int)) (show 1<ls.length by omega)
    have j2:=u4.get (t:=3) ag3 (k:=1) (get_ivs hg1)
    have j1':indexAddrA Try.prog 23 u (iv 1)=some (addrOf u 1):=j1
    refine WC.loop' ?_
    generalize hW:WC E none (CCode.loop c110l8) Q=W
    simp only[c110l8,c110o2,c110o3,ptrA,nilCheck_ptr,fa104_0,u1,ul,hkk,i1,i2,Qa,Qb,Qc,Qd,Qe,Qf,Qg,Qh,Qi,Qj,Qk,Ql,Qm,Qn,true_and,and_true,Qo,Qp,Qq,Qr,Qs,Qt,Qu,Qv,Qw,Qx,Qy,Qz,Ra,Rb,Rc,Rd,Re,Rf,Rg,Rh,Ri,Rj,Rk,Rl,Rm,Ya,Yb,Yc,Rn,Ro,Rp,Yd,Ye,Rq,Rs,Rt,Ru,Rv,Rw,Rx]
    refine(is_ok hE h h3 (l:=y) (by rw[hz.value];omega) (by rw[hz.value];omega)).mono ?_
    rintro _ _ ⟨rfl,rfl⟩
    have hgy:ls.getD k 0=y:=by rw[List.getD_eq_getElem?_getD,hy];rfl
    by_cases hge:0≤isV v.value y
    · have hfm:findM v.value (y::l) k=some k:=by unfold findM;rw[if_pos hge]
      obtain⟨s1,a1,a2,a3,a4,a5⟩:=h.put_lit hc (k:=1) (by omega) y u1
      have hc1:(clPut v.cl c (ls.set 1 y,b)) c=some (ls.set 1 y,b):=clPut_same _ _ _
      have a2':SAt ow s1 p x { v with cl:=clPut v.cl c (ls.set 1 y,b) }:=a2
      obtain⟨s2,b1,b2,b3,b4,b5⟩:=a2'.put_lit hc1 (k:=k) (by rw[List.length_set];exact hlt) (ls.getD 1 0) a5
      have hsw:(ls.set 1 y).set k (ls.getD 1 0)=swapL ls 1 k:=by unfold swapL;rw[hgy]
      rw[hsw]at b2
      have b2':SAt ow s2 p x { v with cl:=clPut v.cl c (swapL ls 1 k,b) }:=by
        have e:=clPut_put v.cl c (ls.set 1 y,b) (swapL ls 1 k,b)
        have:SAt ow s2 p x { v with cl:=clPut (clPut v.cl c (ls.set 1 y,b)) c (swapL ls 1 k,b) }:=b2
        rw[e]at this
        exact this
      have hst:Step (fun _=>False) ow s2 (ext ow s2.next (0,0,0)) (newObj s2 (mkRow 92 1 [ptrA c])):=Step.new _ ow s2 _ _
      have d2:=b2'.keep hst (fun _ q=>q.elim)
      have hpl:=VL.place ⟨hy0,hy1⟩
      have hwk:v.watches[place y]? = some (v.watches.getD (place y) []):=getD_get (by rw[hz.w];exact hpl)
      obtain⟨w1,w1',s3,s4,ow',f1,f2,f3,ldw3,f4,f5,f6,f7⟩:=d2.watch_in (k:=place y) hwk (by have:=hs _ (List.mem_of_getElem? hwk);omega) c (q:=s2.next) (ty:=92) (sz':=1) (by rw[heap_new,if_pos rfl])
      have hc2:(clPut v.cl c (swapL ls 1 k,b)) c=some (swapL ls 1 k,b):=clPut_same _ _ _
      obtain⟨u',q1,q2,q3,q4,q5⟩:=b2'.lits hc2
      have huu:u'=u:=by rw[b5]at q1;injection q1 with q1;exact q1.symm
      subst huu
      have hs1:(swapL ls 1 k)[1]? = some y:=by
        unfold swapL
        rw[List.getElem?_set,if_neg (by omega),List.getElem?_set,if_pos rfl,if_pos (by omega),hgy]
      have r2:=q4.get (t:=3) ag3 (k:=1) (get_ivs hs1)
      have hcx:c<s2.next:=q5
      have e5:loadV Try.prog (newObj s2 (mkRow 92 1 [ptrA c])) 23 (.ptr (some (c,0)))=some u':=(loadV_eq (s:=s2) (by rw[heap_new,if_neg (by omega)])).trans b5
      have q4':=q4.step hst (fun q=>q.elim)
      have r2':=q4'.get (t:=3) ag3 (k:=1) (get_ivs hs1)
      have bl:=bld_one (P:=Try.prog) (t:=89) (v:=ptrA c) Try.underlying89 sz92 zr92 rfl rfl
      have hms:∀ (m:Nat) (i:Nat),Made.val i (.slice m)=.slice (some (i,0)) m (some m):=fun _ _=>rfl
      have hself:eqA x.w x.w=true:=by obtain⟨us,_,w2,_⟩:=b2'.w;exact w2.self
      have hselfu:eqA u' u'=true:=q4.self
      have g1:=decide_eq_true hge
      have ldw:=b2'.ld_w
      have ldw':=d2.ld_w
      simp only[ptrA]at bl f1 f2 f3 f4 e5 r2' ldw'
      simp only[g1,c110o4,ptrA,nilCheck_ptr,fa104_0,fa91_0,u1,i1,i2,j1',j2,on2,a1,b1,withV,c110o5,ldw,b5,r2,bl,hms,Qa,Qb,Qc,Qd,Qe,Qf,Qg,Qh,Qi,Qj,Qk,Ql,Qm,Qn,true_and,and_true,Qo,Qp,Qq,Qr,Qs,Qt,Qu,Qv,Qw,Qx,Qy,Qz,Ra,Rb,Rc,Rd,Re,Rf,Rg,Rh,Ri,Rj,Rk,Rl,Rm,Ya,Yb,Yc,Rn,Ro,Rp,Yd,Ye,Rq,Rs,Rt,Ru,Rv,Rw,Rx]
      refine(place_ok hE (l:=y) (by omega)).mono ?_
      rintro _ _ ⟨rfl,rfl⟩
      simp only[again_r1,sameA_some,r2',eqA_iv,e5,hselfu,ldw',hself,Qa,Qb,Qc,Qd,Qe,Qf,Qg,Qh,Qi,Qj,Qk,Ql,Qm,Qn,true_and,and_true,Qo,Qp,Qq,Qr,Qs,Qt,Qu,Qv,Qw,Qx,Qy,Qz,Ra,Rb,Rc,Rd,Re,Rf,Rg,Rh,Ri,Rj,Rk,Rl,Rm,Ya,Yb,Yc,Rn,Ro,Rp,Yd,Ye,Rq,Rs,Rt,Ru,Rv,Rw,Rx]
      refine(place_ok hE (l:=y) (by omega)).mono ?_
      rintro _ _ ⟨rfl,rfl⟩
      simp only[again_r1,sameA_some,ldw',hself,f1,f2,f3,ldw3,on2,f4,withV,c110o6,Qa,Qb,Qc,Qd,Qe,Qf,Qg,Qh,Qi,Qj,Qk,Ql,Qm,Qn,true_and,and_true,Qo,Qp,Qq,Qr,Qs,Qt,Qu,Qv,Qw,Qx,Qy,Qz,Ra,Rb,Rc,Rd,Re,Rf,Rg,Rh,Ri,Rj,Rk,Rl,Rm,Ya,Yb,Yc,Rn,Ro,Rp,Yd,Ye,Rq,Rs,Rt,Ru,Rv,Rw,Rx]
      refine hyes k s4 ow' x _ _ _ hfm hlt hk2 ?_ ((a3.trans b3).b.trans ((hst.mono fun _ q=>q.elim).trans f6.w)) ⟨rfl,fun j hj he=>?_⟩
      rotate_left
      · have hjk:j≠place y:=fun e=>by
          subst e
          have e1:(moveTo v c ls b k).watches[place y]? = some (v.watches.getD (place y) []++[c]):=by
            show(v.watches.set (place (ls.getD k 0)) _)[place y]? = _
            rw[hgy,List.getElem?_set,if_pos rfl,if_pos hj]
          rw[e1,hwk]at he
          injection he with he
          have:=congrArg List.length he
          simp at this
        rw[f7 j hj hjk]
        obtain⟨us,w1,w2,_⟩:=h.w
        have hju:us[j]? = some us[j]:=List.getElem?_eq_getElem (by omega)
        rw[w2.get ag89 hju]
        exact((w2.step (a3.trans b3) (fun q=>q.2.1 rfl)).step hst (fun q=>q.elim)).get ag89 hju
      have:moveTo v c ls b k={ { v with cl:=clPut v.cl c (swapL ls 1 k,b) }with watches:=v.watches.set (place y) (v.watches.getD (place y) []++[c]) }:=by unfold moveTo wPut;rw[hgy]
      rw[this]
      exact f5
    · have hfm:findM v.value (y::l) k=findM v.value l (k+1):=by conv=>lhs;unfold findM;rw[if_neg hge]
      rw[hfm]at hno hyes
      have g1:=decide_eq_false hge
      simp only[g1,c110o7,e3,hcast,Qa,Qb,Qc,Qd,Qe,Qf,Qg,Qh,Qi,Qj,Qk,Ql,Qm,Qn,true_and,and_true,Qo,Qp,Qq,Qr,Qs,Qt,Qu,Qv,Qw,Qx,Qy,Qz,Ra,Rb,Rc,Rd,Re,Rf,Rg,Rh,Ri,Rj,Rk,Rl,Rm,Ya,Yb,Yc,Rn,Ro,Rp,Yd,Ye,Rq,Rs,Rt,Ru,Rv,Rw,Rx]
      rw[← hW]
      exact ih (k+1) _ _ _ hd' (by omega) hlt hno hyes
theorem move_ok{E:Env}(hE:Good E){ow:Ow}{s:ASt}{p:Nat}{x:Sf}{v:Sv}(h:SAt ow s p x v){n:Nat}(hf:Fit n v)(hs:Short v.watches){c:Nat}{ls:List Int}{b:Bool×Bool}(hc:v.cl c=some (ls,b))(hl:ClsOk n ls)(h2:2≤ls.length):
    WF E 110 [ptrA p,ptrA c] (fun r s'=>(findM v.value (ls.drop 2) 2=none∧r=.bool false∧s'=s)∨∃i ow' x',findM v.value (ls.drop 2) 2=some i∧i<ls.length∧2≤i∧r=.bool true∧SAt ow' s' p x' (moveTo v c ls b i)∧Step (mine p) ow s ow' s'∧HK x x' v (moveTo v c ls b i) s s') s:=by
  refine hE.go comp110 (by decide) rfl ?_
  simp only[c110,c110o0,c110o1,Qa,Qb,Qc,Qd,Qe,Qf,Qg,Qh,Qi,Qj,Qk,Ql,Qm,Qn,true_and,and_true,Qo,Qp,Qq,Qr,Qs,Qt,Qu,Qv,Qw,Qx,Qy,Qz,Ra,Rb,Rc,Rd,Re,Rf,Rg,Rh,Ri,Rj,Rk,Rl,Rm,Ya,Yb,Yc,Rn,Ro,Rp,Yd,Ye,Rq,Rs,Rt,Ru,Rv,Rw,Rx]
  refine move_loop hE h hf hs hc hl h2 (ls.drop 2) 2 _ _ _ rfl (Nat.le_refl _) h2 ?_ ?_
  · intro y2 y3 y4 y5 hno
    simp only[if_true,c110o9,Qa,Qb,Qc,Qd,Qe,Qf,Qg,Qh,Qi,Qj,Qk,Ql,Qm,Qn,true_and,and_true,Qo,Qp,Qq,Qr,Qs,Qt,Qu,Qv,Qw,Qx,Qy,Qz,Ra,Rb,Rc,Rd,Re,Rf,Rg,Rh,Ri,Rj,Rk,Rl,Rm,Ya,Yb,Yc,Rn,Ro,Rp,Yd,Ye,Rq,Rs,Rt,Ru,Rv,Rw,Rx]
    exact .inl hno
  · intro i s' ow' x' y3 y4 y5 h1 h3 h4 h5 h6 h7
    simp only[Qa,Qb,Qc,Qd,Qe,Qf,Qg,Qh,Qi,Qj,Qk,Ql,Qm,Qn,true_and,and_true,Qo,Qp,Qq,Qr,Qs,Qt,Qu,Qv,Qw,Qx,Qy,Qz,Ra,Rb,Rc,Rd,Re,Rf,Rg,Rh,Ri,Rj,Rk,Rl,Rm,Ya,Yb,Yc,Rn,Ro,Rp,Yd,Ye,Rq,Rs,Rt,Ru,Rv,Rw,Rx]
    exact .inr ⟨i,ow',x',h1,h3,h4,h5,h6,h7⟩
def touchR(v:Sv)(c:Nat)(l:Int)(ls:List Int)(b:Bool×Bool):Bool×Bool×Sv:=
  if b.2=true then (false,false,v)else
  let ls1:=if ls.getD 0 0=l then swapL ls 0 1 else ls
  let v1:Sv:={ v with cl:=clPut v.cl c (ls1,b) }
  if 0<isV v.value (ls1.getD 0 0)then (true,false,v1)else
  match findM v.value (ls1.drop 2) 2 with
  | some i=>(false,false,moveTo v1 c ls1 b i)
  | none=>if isV v.value (ls1.getD 0 0)<0 then (true,true,v1)else (true,false,assignV v1 (ls1.getD 0 0) (some c))
theorem clPut_id{cl:Nat→Option Clause}{c:Nat}{l:Clause}(h:cl c=some l):clPut cl c l=cl:=by
  funext d
  unfold clPut
  by_cases e:d=c
  · rw[if_pos e,e,h]
  · rw[if_neg e]
theorem touch_rest {E : Env} (hE : Good E) {ow : Ow} {s : ASt} {p : Nat} {x : Sf} {v : Sv} (h : SAt ow s p x v) {n : Nat} (hf : Fit n v) (hs : Short v.watches) {c : Nat} {ls : List Int} {b : Bool × Bool} (hc : v.cl c = some (ls, b)) (hl : ClsOk n ls) (h2 : 2 ≤ ls.length) (l5 l6 x3 x4 x5 : AV) {Q : AV → ASt → Prop}
    (hq:∀a f s' ow' x' v',(if 0<isV v.value (ls.getD 0 0)then (true,false,v)else
      match findM v.value (ls.drop 2) 2 with
      | some i=>(false,false,moveTo v c ls b i)
      | none=>if isV v.value (ls.getD 0 0)<0 then (true,true,v)else (true,false,assignV v (ls.getD 0 0) (some c)))=(a,f,v')→SAt ow' s' p x' v'→Step (mine p) ow s ow' s'→HK x x' v v' s s'→Q (.tuple [.bool a,.bool f]) s'):
    Qa E none (.seq (.block 0 (.seq (.ops c92o5) (.cond (.var 7) (.seq (.ops c92o6) .ret) (.seq (.ops c92o7) (.cond (.var 8) (.seq (.ops c92o8) .ret) (.seq (.ops c92o9) (.cond (.var 9) (.seq (.ops c92o10) .ret) .skip))))))) (.seq (.ops c92o11) (.seq (.ops c92o12) .ret)))
      (Ends Try.prog [((.var 3),none),((.var 4),none)] Q) [ptrA p,ptrA c,l5,.bool false,.bool false,l6,x3,x4,x5,undefA] [] s:=by
  have hz:=hf.siz
  have hn:=hz.small
  have hV0:=hl.get (k:=0) (by omega)
  obtain⟨u,u1,u2,u3,u4,u5⟩:=h.lits hc
  have u4:Buf ow (p,15,c) s u (ivs ls):=u4
  have hg0:=getD_get (d:=(0:Int)) (show 0<ls.length by omega)
  have i1:=u4.addr Try.underlying23 sz3 (k:=0) (by rw[List.length_map];omega)
  have i1':indexAddrA Try.prog 23 u (iv 0)=some (addrOf u 0):=i1
  have i2:=u4.get (t:=3) ag3 (k:=0) (get_ivs hg0)
  generalize hl0:ls.getD 0 0=l0 at hV0 i2 hq
  have hlen:l0.natAbs<v.value.length:=by rw[hz.value];have:=hV0.2;omega
  have hlen2:v.value.length<1000000000:=by rw[hz.value];omega
  simp only[c92o5,ptrA,nilCheck_ptr,fa104_0,u1,i1',i2,Qa,Qb,Qc,Qd,Qe,Qf,Qg,Qh,Qi,Qj,Qk,Ql,Qm,Qn,true_and,and_true,Qo,Qp,Qq,Qr,Qs,Qt,Qu,Qv,Qw,Qx,Qy,Qz,Ra,Rb,Rc,Rd,Re,Rf,Rg,Rh,Ri,Rj,Rk,Rl,Rm,Ya,Yb,Yc,Rn,Ro,Rp,Yd,Ye,Rq,Rs,Rt,Ru,Rv,Rw,Rx]
  refine(is_ok hE h hf.val hlen hlen2).mono ?_
  rintro _ _ ⟨rfl,rfl⟩
  by_cases hp:0<isV v.value l0
  · rw[if_pos hp]at hq
    simp only[decide_eq_true hp,c92o6,Qa,Qb,Qc,Qd,Qe,Qf,Qg,Qh,Qi,Qj,Qk,Ql,Qm,Qn,true_and,and_true,Qo,Qp,Qq,Qr,Qs,Qt,Qu,Qv,Qw,Qx,Qy,Qz,Ra,Rb,Rc,Rd,Re,Rf,Rg,Rh,Ri,Rj,Rk,Rl,Rm,Ya,Yb,Yc,Rn,Ro,Rp,Yd,Ye,Rq,Rs,Rt,Ru,Rv,Rw,Rx]
    exact hq _ _ _ _ _ _ rfl h (Step.refl _ _ _) (HK.refl _ _ _ _)
  · rw[if_neg hp]at hq
    simp only[decide_eq_false hp,c92o7,Qa,Qb,Qc,Qd,Qe,Qf,Qg,Qh,Qi,Qj,Qk,Ql,Qm,Qn,true_and,and_true,Qo,Qp,Qq,Qr,Qs,Qt,Qu,Qv,Qw,Qx,Qy,Qz,Ra,Rb,Rc,Rd,Re,Rf,Rg,Rh,Ri,Rj,Rk,Rl,Rm,Ya,Yb,Yc,Rn,Ro,Rp,Yd,Ye,Rq,Rs,Rt,Ru,Rv,Rw,Rx]
    refine(move_ok hE h hf hs hc hl h2).mono ?_
    rintro r s1 (⟨g1,rfl,rfl⟩ | ⟨i,ow',x',g1,_,_,rfl,g2,g3,g4⟩)
    · rw[g1]at hq
      simp only[c92o9,ptrA,nilCheck_ptr,fa104_0,u1,i1',i2,Qa,Qb,Qc,Qd,Qe,Qf,Qg,Qh,Qi,Qj,Qk,Ql,Qm,Qn,true_and,and_true,Qo,Qp,Qq,Qr,Qs,Qt,Qu,Qv,Qw,Qx,Qy,Qz,Ra,Rb,Rc,Rd,Re,Rf,Rg,Rh,Ri,Rj,Rk,Rl,Rm,Ya,Yb,Yc,Rn,Ro,Rp,Yd,Ye,Rq,Rs,Rt,Ru,Rv,Rw,Rx]
      refine(is_ok hE h hf.val hlen hlen2).mono ?_
      rintro _ _ ⟨rfl,rfl⟩
      by_cases hm:isV v.value l0<0
      · simp only [if_pos hm] at hq
        simp only[decide_eq_true hm,c92o10,Qa,Qb,Qc,Qd,Qe,Qf,Qg,Qh,Qi,Qj,Qk,Ql,Qm,Qn,true_and,and_true,Qo,Qp,Qq,Qr,Qs,Qt,Qu,Qv,Qw,Qx,Qy,Qz,Ra,Rb,Rc,Rd,Re,Rf,Rg,Rh,Ri,Rj,Rk,Rl,Rm,Ya,Yb,Yc,Rn,Ro,Rp,Yd,Ye,Rq,Rs,Rt,Ru,Rv,Rw,Rx]
        exact hq _ _ _ _ _ _ rfl h (Step.refl _ _ _) (HK.refl _ _ _ _)
      · simp only [if_neg hm] at hq
        simp only[decide_eq_false hm,c92o11,ptrA,nilCheck_ptr,fa104_0,u1,i1',i2,Qa,Qb,Qc,Qd,Qe,Qf,Qg,Qh,Qi,Qj,Qk,Ql,Qm,Qn,true_and,and_true,Qo,Qp,Qq,Qr,Qs,Qt,Qu,Qv,Qw,Qx,Qy,Qz,Ra,Rb,Rc,Rd,Re,Rf,Rg,Rh,Ri,Rj,Rk,Rl,Rm,Ya,Yb,Yc,Rn,Ro,Rp,Yd,Ye,Rq,Rs,Rt,Ru,Rv,Rw,Rx]
        refine(assign_ok hE h hz hV0 (some c)).mono ?_
        rintro _ s2 ⟨ow',x',k1,k2,k3⟩
        simp only[c92o12,Qa,Qb,Qc,Qd,Qe,Qf,Qg,Qh,Qi,Qj,Qk,Ql,Qm,Qn,true_and,and_true,Qo,Qp,Qq,Qr,Qs,Qt,Qu,Qv,Qw,Qx,Qy,Qz,Ra,Rb,Rc,Rd,Re,Rf,Rg,Rh,Ri,Rj,Rk,Rl,Rm,Ya,Yb,Yc,Rn,Ro,Rp,Yd,Ye,Rq,Rs,Rt,Ru,Rv,Rw,Rx]
        exact hq _ _ _ _ _ _ rfl k1 k2.b (HK.ofB h k2 k3)
    · rw[g1]at hq
      simp only[c92o8,Qa,Qb,Qc,Qd,Qe,Qf,Qg,Qh,Qi,Qj,Qk,Ql,Qm,Qn,true_and,and_true,Qo,Qp,Qq,Qr,Qs,Qt,Qu,Qv,Qw,Qx,Qy,Qz,Ra,Rb,Rc,Rd,Re,Rf,Rg,Rh,Ri,Rj,Rk,Rl,Rm,Ya,Yb,Yc,Rn,Ro,Rp,Yd,Ye,Rq,Rs,Rt,Ru,Rv,Rw,Rx]
      exact hq _ _ _ _ _ _ rfl g2 g3 g4
theorem touch_ok {E : Env} (hE : Good E) {ow : Ow} {s : ASt} {p : Nat} {x : Sf} {v : Sv} (h : SAt ow s p x v) {n : Nat} (hf : Fit n v) (hs : Short v.watches) {c : Nat} {ls : List Int} {b : Bool × Bool} (hc : v.cl c = some (ls, b)) (hl : ClsOk n ls) (h2 : 2 ≤ ls.length) (l : Int) :
    WF E 92 [ptrA p,ptrA c,iv l] (fun r s'=>∃a f v' ow' x',touchR v c l ls b=(a,f,v')∧r=.tuple [.bool a,.bool f]∧SAt ow' s' p x' v'∧Step (mine p) ow s ow' s'∧HK x x' v v' s s') s:=by
  obtain⟨u,u1,u2,u3,u4,u5⟩:=h.lits hc
  have u4:Buf ow (p,15,c) s u (ivs ls):=u4
  have u3:loadV Try.prog s 4 (.ptr (some (c,2)))=some (.bool b.2):=u3
  have hg0:=getD_get (d:=(0:Int)) (show 0<ls.length by omega)
  have hg1:=getD_get (d:=(0:Int)) (show 1<ls.length by omega)
  have i1:indexAddrA Try.prog 23 u (iv 0)=some (addrOf u 0):=u4.addr Try.underlying23 sz3 (k:=0) (by rw[List.length_map];omega)
  have i2:=u4.get (t:=3) ag3 (k:=0) (get_ivs hg0)
  have j1:indexAddrA Try.prog 23 u (iv 1)=some (addrOf u 1):=u4.addr Try.underlying23 sz3 (k:=1) (by rw[List.length_map];omega)
  have j2:=u4.get (t:=3) ag3 (k:=1) (get_ivs hg1)
  refine hE.go comp92 (by decide) rfl ?_
  cases hb:b.2 with
  | true =>
    rw[hb]at u3
    have ht:touchR v c l ls b=(false,false,v):=by unfold touchR;rw[if_pos hb]
    simp only[c92,c92o0,c92o1,c92o2,ptrA,nilCheck_ptr,fa104_2,u3,Qa,Qb,Qc,Qd,Qe,Qf,Qg,Qh,Qi,Qj,Qk,Ql,Qm,Qn,true_and,and_true,Qo,Qp,Qq,Qr,Qs,Qt,Qu,Qv,Qw,Qx,Qy,Qz,Ra,Rb,Rc,Rd,Re,Rf,Rg,Rh,Ri,Rj,Rk,Rl,Rm,Ya,Yb,Yc,Rn,Ro,Rp,Yd,Ye,Rq,Rs,Rt,Ru,Rv,Rw,Rx]
    exact⟨false,false,v,ow,x,ht,rfl,h,Step.refl _ _ _,HK.refl _ _ _ _⟩
  | false =>
    rw[hb]at u3
    by_cases he:ls.getD 0 0=l
    · obtain⟨s1,a1,a2,a3,a4,a5⟩:=h.put_lit hc (k:=0) (by omega) (ls.getD 1 0) u1
      have hc1:(clPut v.cl c (ls.set 0 (ls.getD 1 0),b)) c=some (ls.set 0 (ls.getD 1 0),b):=clPut_same _ _ _
      have a2':SAt ow s1 p x { v with cl:=clPut v.cl c (ls.set 0 (ls.getD 1 0),b) }:=a2
      obtain⟨s2,b1,b2,b3,b4,b5⟩:=a2'.put_lit hc1 (k:=1) (by rw[List.length_set];omega) (ls.getD 0 0) a5
      have b2':SAt ow s2 p x { v with cl:=clPut v.cl c (swapL ls 0 1,b) }:=by
        have e:=clPut_put v.cl c (ls.set 0 (ls.getD 1 0),b) (swapL ls 0 1,b)
        have:SAt ow s2 p x { v with cl:=clPut (clPut v.cl c (ls.set 0 (ls.getD 1 0),b)) c (swapL ls 0 1,b) }:=b2
        rw[e]at this
        exact this
      have hf2:Fit n { v with cl:=clPut v.cl c (swapL ls 0 1,b) }:=⟨⟨hf.siz.small,hf.siz.w,hf.siz.value,hf.siz.level,hf.siz.why,hf.siz.heat,hf.siz.phase,hf.siz.trail,hf.siz.limits⟩,hf.val,hf.lits,hf.lims⟩
      have hd:=decide_eq_true he
      have fin:=fun(l5:AV)=>touch_rest hE b2' hf2 hs (c:=c) (ls:=swapL ls 0 1) (b:=b) (clPut_same _ _ _) (hl.swap (by omega) (by omega)) (by rw[swapL_len];exact h2) l5 (.bool false) (.bool true) undefA undefA (Q:=fun r s'=>∃a f v' ow' x',touchR v c l ls b=(a,f,v')∧r=.tuple [.bool a,.bool f]∧SAt ow' s' p x' v'∧Step (mine p) ow s ow' s'∧HK x x' v v' s s')
        (fun a f s' ow' x' v' e k1 k2 k3=>⟨a,f,v',ow',x',by unfold touchR;rw[if_neg (by rw[hb];decide)];simp only[if_pos he];exact e,rfl,k1,(a3.trans b3).b.trans k2,k3.1,fun j hj hw=>(k3.2 j hj hw).trans ((HK.ofB (x':=x) (v':=v) h (a3.trans b3) rfl).2 j hj rfl)⟩)
      have fin:=fin (iv l)
      simp only[ptrA,Qa,Qb,Qc,Qd,Qe,Qf,Qg,Qh,Qi,Qj,Qk,Ql,Qm,Qn,true_and,and_true,Qo,Qp,Qq,Qr,Qs,Qt,Qu,Qv,Qw,Qx,Qy,Qz,Ra,Rb,Rc,Rd,Re,Rf,Rg,Rh,Ri,Rj,Rk,Rl,Rm,Ya,Yb,Yc,Rn,Ro,Rp,Yd,Ye,Rq,Rs,Rt,Ru,Rv,Rw,Rx]at fin
      simp only[c92,c92o0,c92o1,c92o3,c92o4,ptrA,nilCheck_ptr,fa104_2,fa104_0,u3,u1,i1,i2,j1,j2,hd,on2,a1,b1,withV,Qa,Qb,Qc,Qd,Qe,Qf,Qg,Qh,Qi,Qj,Qk,Ql,Qm,Qn,true_and,and_true,Qo,Qp,Qq,Qr,Qs,Qt,Qu,Qv,Qw,Qx,Qy,Qz,Ra,Rb,Rc,Rd,Re,Rf,Rg,Rh,Ri,Rj,Rk,Rl,Rm,Ya,Yb,Yc,Rn,Ro,Rp,Yd,Ye,Rq,Rs,Rt,Ru,Rv,Rw,Rx]
      exact fin
    · have hd := decide_eq_false he
      have fin:=touch_rest hE h hf hs hc hl h2 (iv l) (.bool false) (.bool false) undefA undefA (Q:=fun r s'=>∃a f v' ow' x',touchR v c l ls b=(a,f,v')∧r=.tuple [.bool a,.bool f]∧SAt ow' s' p x' v'∧Step (mine p) ow s ow' s'∧HK x x' v v' s s')
        (fun a f s' ow' x' v' e k1 k2 k3=>⟨a,f,v',ow',x',by
          unfold touchR
          rw[if_neg (by rw[hb];decide)]
          simp only[if_neg he]
          rw[clPut_id hc]
          exact e,rfl,k1,k2,k3⟩)
      simp only[ptrA,Qa,Qb,Qc,Qd,Qe,Qf,Qg,Qh,Qi,Qj,Qk,Ql,Qm,Qn,true_and,and_true,Qo,Qp,Qq,Qr,Qs,Qt,Qu,Qv,Qw,Qx,Qy,Qz,Ra,Rb,Rc,Rd,Re,Rf,Rg,Rh,Ri,Rj,Rk,Rl,Rm,Ya,Yb,Yc,Rn,Ro,Rp,Yd,Ye,Rq,Rs,Rt,Ru,Rv,Rw,Rx]at fin
      simp only[c92,c92o0,c92o1,c92o3,ptrA,nilCheck_ptr,fa104_2,fa104_0,u3,u1,i1,i2,hd,Qa,Qb,Qc,Qd,Qe,Qf,Qg,Qh,Qi,Qj,Qk,Ql,Qm,Qn,true_and,and_true,Qo,Qp,Qq,Qr,Qs,Qt,Qu,Qv,Qw,Qx,Qy,Qz,Ra,Rb,Rc,Rd,Re,Rf,Rg,Rh,Ri,Rj,Rk,Rl,Rm,Ya,Yb,Yc,Rn,Ro,Rp,Yd,Ye,Rq,Rs,Rt,Ru,Rv,Rw,Rx]
      exact fin
structure Inv1(n:Nat)(v:Sv):Prop where
  fit:Fit n v
  nodup:(v.trail.map Int.natAbs).Nodup
  holds:∀l∈v.trail,v.value.getD l.natAbs 0=sgn l
  open_:∀k,(∀l∈v.trail,l.natAbs≠k)→v.value.getD k 0=0
  wc:∀L∈v.watches,∀c∈L,∃ls b,v.cl c=some (ls,b)∧ClsOk n ls∧2≤ls.length
def ShortN(B:Nat)(ws:List (List Nat)):Prop:=∀L∈ws,L.length≤B
theorem ShortN.mono{B C:Nat}{ws:List (List Nat)}(h:ShortN B ws)(hB:B≤C):ShortN C ws:=fun L hL=>Nat.le_trans (h L hL) hB
theorem ShortN.set{B:Nat}{ws:List (List Nat)}(h:ShortN B ws){k:Nat}{L:List Nat}(hL:L.length≤B):ShortN B (ws.set k L):=fun M hM=>by
  rcases List.mem_or_eq_of_mem_set hM with h' | h'
  · exact h M h'
  · rw[h'];exact hL
theorem ShortN.put{B:Nat}{ws:List (List Nat)}(h:ShortN B ws)(k c:Nat):ShortN (B+1) (wPut ws k c):=by
  refine ShortN.set (h.mono (by omega)) ?_
  have:(ws.getD k []).length≤B:=by
    rw[List.getD_eq_getElem?_getD]
    cases hk:ws[k]? with
    | none=>simp
    | some L=>exact h L (List.mem_of_getElem? hk)
  rw[List.length_append,List.length_singleton]
  omega
theorem getD_set{α:Type}{l:List α}{k j:Nat}{a d:α}(hk:k<l.length):(l.set k a).getD j d=if j=k then a else l.getD j d:=by
  rw[List.getD_eq_getElem?_getD,List.getD_eq_getElem?_getD,List.getElem?_set]
  by_cases e:k=j
  · subst e;rw[if_pos rfl,if_pos hk,if_pos rfl];rfl
  · rw[if_neg e,if_neg (fun q=>e q.symm)]
theorem mem_put{ws:List (List Nat)}{k c:Nat}{L:List Nat}(h:L∈wPut ws k c){d:Nat}(hd:d∈L):d=c∨∃M∈ws,d∈M:=by
  unfold wPut at h
  rcases List.mem_or_eq_of_mem_set h with h | h
  · exact .inr ⟨L,h,hd⟩
  · rw [h] at hd
    rcases List.mem_append.1 hd with hd | hd
    · rw[List.getD_eq_getElem?_getD]at hd
      cases hk:ws[k]? with
      | none=>rw[hk]at hd;cases hd
      | some M=>rw[hk]at hd;exact .inr ⟨M,List.mem_of_getElem? hk,hd⟩
    · exact .inl (List.mem_singleton.1 hd)
theorem nodup_len : ∀ {n : Nat} {l : List Nat}, l.Nodup → (∀ x ∈ l, 1 ≤ x ∧ x ≤ n) → l.length ≤ n
  | 0,l,h,hb=>by
    cases l with
    | nil=>exact Nat.le_refl _
    | cons x l=>have:=hb x List.mem_cons_self;omega
  | n + 1, l, h, hb => by
    by_cases hm:n+1∈l
    · have h1:=nodup_len (n:=n) (h.erase (n+1)) fun x hx=>by
        have hne:x≠n+1:=fun e=>by rw[e]at hx;exact h.not_mem_erase hx
        have:=hb x (List.mem_of_mem_erase hx)
        exact⟨this.1,by omega⟩
      rw[List.length_erase_of_mem hm]at h1
      omega
    · have h1:=nodup_len (n:=n) h fun x hx=>by
        have hne:x≠n+1:=fun e=>by rw[e]at hx;exact hm hx
        have:=hb x hx
        exact⟨this.1,by omega⟩
      omega
theorem sgn_val(l:Int):sgn l=-1∨sgn l=1:=by unfold sgn;split<;>simp
theorem isV_zero{val:List Int}{l:Int}(h:isV val l=0):val.getD l.natAbs 0=0:=by
  unfold isV at h
  split at h<;>omega
theorem Inv1.assign{n:Nat}{v:Sv}(h:Inv1 n v){l:Int}(hl:VL n l)(ho:v.value.getD l.natAbs 0=0)(w:Option Nat):Inv1 n (assignV v l w):=by
  obtain⟨⟨hz,hv,hli,hlm⟩,h2,h3,h4,h5⟩:=h
  have hkl:l.natAbs<v.value.length:=by rw[hz.value];have:=hl.2;omega
  have hno:∀y∈v.trail,y.natAbs≠l.natAbs:=fun y hy e=>by
    have:=h3 y hy
    rw[e,ho]at this
    rcases sgn_val y with q | q<;>omega
  have hnd:((v.trail++[l]).map Int.natAbs).Nodup:=by
    rw[List.map_append,List.nodup_append]
    refine⟨h2,by simp,fun a ha b hb=>?_⟩
    obtain⟨y,hy,rfl⟩:=List.mem_map.1 ha
    have:b=l.natAbs:=by simpa using hb
    rw[this]
    exact hno y hy
  have hmem:∀y∈v.trail++[l],VL n y:=fun y hy=>by
    rcases List.mem_append.1 hy with hy | hy
    · exact hli y hy
    · rw[List.mem_singleton.1 hy];exact hl
  have hlen:(v.trail++[l]).length≤n:=by
    have:=nodup_len hnd (n:=n) fun x hx=>by
      obtain⟨y,hy,rfl⟩:=List.mem_map.1 hx
      obtain⟨q1,q2⟩:=hmem y hy
      exact⟨by omega,q2⟩
    simpa using this
  refine⟨⟨⟨hz.small,hz.w,?_,?_,?_,hz.heat,hz.phase,hlen,hz.limits⟩,fun x hx=>?_,hmem,fun x hx=>?_⟩,hnd,fun y hy=>?_,fun k hk=>?_,h5⟩
  · show(v.value.set _ _).length=_;rw[List.length_set];exact hz.value
  · show(v.level.set _ _).length=_;rw[List.length_set];exact hz.level
  · show(v.why.set _ _).length=_;rw[List.length_set];exact hz.why
  · rcases List.mem_or_eq_of_mem_set hx with q | q
    · exact hv x q
    · rw[q];rcases sgn_val l with e | e<;>rw[e]<;>simp
  · have:=hlm x hx
    refine⟨this.1,?_⟩
    show x≤((v.trail++[l]).length:Int)
    rw[List.length_append]
    simp
    omega
  · show(v.value.set _ _).getD _ 0=_
    rw[getD_set hkl]
    rcases List.mem_append.1 hy with hy | hy
    · rw[if_neg (hno y hy)];exact h3 y hy
    · rw[List.mem_singleton.1 hy,if_pos rfl]
  · show(v.value.set _ _).getD _ 0=_
    have hkl':k≠l.natAbs:=fun e=>hk l (List.mem_append_right _ List.mem_cons_self) e.symm
    rw[getD_set hkl,if_neg hkl']
    exact h4 k fun y hy=>hk y (List.mem_append_left _ hy)
theorem Inv1.swap{n:Nat}{v:Sv}(h:Inv1 n v){c:Nat}{ls ls':List Int}{b:Bool×Bool}(hc:v.cl c=some (ls,b))(hl:ClsOk n ls')(h2:2≤ls'.length):Inv1 n { v with cl:=clPut v.cl c (ls',b) }:=by
  obtain⟨⟨hz,hv,hli,hlm⟩,g2,g3,g4,g5⟩:=h
  refine⟨⟨⟨hz.small,hz.w,hz.value,hz.level,hz.why,hz.heat,hz.phase,hz.trail,hz.limits⟩,hv,hli,hlm⟩,g2,g3,g4,fun L hL d hd=>?_⟩
  by_cases e:d=c
  · subst e;exact⟨ls',b,clPut_same _ _ _,hl,h2⟩
  · obtain⟨ls,b',q1,q2⟩:=g5 L hL d hd
    exact⟨ls,b',by show clPut _ _ _ d=_;unfold clPut;rw[if_neg e];exact q1,q2⟩
theorem Inv1.put{n:Nat}{v:Sv}(h:Inv1 n v){c:Nat}{ls:List Int}{b:Bool×Bool}(hc:v.cl c=some (ls,b))(hl:ClsOk n ls)(h2:2≤ls.length)(k:Nat):Inv1 n { v with watches:=wPut v.watches k c }:=by
  obtain⟨⟨hz,hv,hli,hlm⟩,g2,g3,g4,g5⟩:=h
  refine⟨⟨⟨hz.small,by show(wPut _ _ _).length=_;rw[wPut_len];exact hz.w,hz.value,hz.level,hz.why,hz.heat,hz.phase,hz.trail,hz.limits⟩,hv,hli,hlm⟩,g2,g3,g4,fun L hL d hd=>?_⟩
  rcases mem_put hL hd with rfl | ⟨M,hM,hd⟩
  · exact⟨ls,b,hc,hl,h2⟩
  · exact g5 M hM d hd
theorem findM_lt{val:List Int}:∀ {l:List Int}{k i:Nat},findM val l k=some i→k≤i∧i<k+l.length
  | [],k,i,h=>by cases h
  | x::l,k,i,h=>by
    unfold findM at h
    split at h
    · injection h with h;subst h;simp
    · have:=findM_lt h;simp;omega
theorem Inv1.move{n:Nat}{v:Sv}(h:Inv1 n v){c:Nat}{ls:List Int}{b:Bool×Bool}(hc:v.cl c=some (ls,b))(hl:ClsOk n ls)(h2:2≤ls.length){i:Nat}(hi:i<ls.length):Inv1 n (moveTo v c ls b i):=
  (h.swap hc (hl.swap (i:=1) (j:=i) (by omega) hi) (by rw[swapL_len];exact h2)).put (clPut_same _ _ _) (hl.swap (i:=1) (j:=i) (by omega) hi) (by rw[swapL_len];exact h2) _
structure Touched(v v':Sv)(c:Nat):Prop where
  learned:v'.learned=v.learned
  heat:v'.heat=v.heat
  phase:v'.phase=v.phase
  limits:v'.limits=v.limits
  head:v'.head=v.head
  broken:v'.broken=v.broken
  model:v'.model=v.model
  trace:v'.trace=v.trace
  many:v'.many=v.many
  room:v'.room=v.room
  wlen:v'.watches.length=v.watches.length
  cl:∀d,d≠c→v'.cl d=v.cl d
theorem touch_inv {n B : Nat} {v : Sv} (h : Inv1 n v) (hs : ShortN B v.watches) {c : Nat} {ls : List Int} {b : Bool × Bool} (hc : v.cl c = some (ls, b)) (hl : ClsOk n ls) (h2 : 2 ≤ ls.length) {l : Int} {a f : Bool} {v' : Sv} (ht : touchR v c l ls b = (a, f, v')) :
    Inv1 n v'∧ShortN (B+1) v'.watches∧Touched v v' c∧∃ls',v'.cl c=some (ls',b)∧ClsOk n ls'∧ls'.length=ls.length:=by
  unfold touchR at ht
  have same:Touched v v c:=⟨rfl,rfl,rfl,rfl,rfl,rfl,rfl,rfl,rfl,rfl,rfl,fun _ _=>rfl⟩
  by_cases hb:b.2=true
  · rw[if_pos hb]at ht
    injection ht with h1 ht
    injection ht with h3 ht
    subst ht
    exact⟨h,hs.mono (by omega),same,ls,hc,hl,rfl⟩
  · rw[if_neg hb]at ht
    dsimp only at ht
    have hl1:ClsOk n (if ls.getD 0 0=l then swapL ls 0 1 else ls):=by
      split
      · exact hl.swap (by omega) (by omega)
      · exact hl
    have hlen:(if ls.getD 0 0=l then swapL ls 0 1 else ls).length=ls.length:=by
      split
      · exact swapL_len _ _ _
      · rfl
    generalize (if ls.getD 0 0=l then swapL ls 0 1 else ls)=ls1 at ht hl1 hlen
    have hi1:=h.swap hc hl1 (by omega)
    have hc1:({ v with cl:=clPut v.cl c (ls1,b) }:Sv).cl c=some (ls1,b):=clPut_same _ _ _
    have t1:Touched v { v with cl:=clPut v.cl c (ls1,b) } c:=⟨rfl,rfl,rfl,rfl,rfl,rfl,rfl,rfl,rfl,rfl,rfl,fun d hd=>if_neg hd⟩
    generalize hv1:({ v with cl:=clPut v.cl c (ls1,b) }:Sv)=v1 at ht hi1 hc1 t1
    have hw1:v1.watches=v.watches:=by rw[← hv1]
    have hval1:v1.value=v.value:=by rw[← hv1]
    split at ht
    · injection ht with h1 ht
      injection ht with h3 ht
      subst ht
      exact⟨hi1,by rw[hw1];exact hs.mono (by omega),t1,ls1,hc1,hl1,hlen⟩
    · rename_i hnp
      split at ht
      · rename_i i hfi
        injection ht with h1 ht
        injection ht with h3 ht
        subst ht
        have hil:=findM_lt hfi
        rw[List.length_drop]at hil
        refine⟨hi1.move hc1 hl1 (by omega) (by omega),?_,?_,swapL ls1 1 i,clPut_same _ _ _,hl1.swap (by omega) (by omega),by rw[swapL_len];exact hlen⟩
        · show ShortN (B+1) (wPut v1.watches _ _)
          rw[hw1]
          exact hs.put _ _
        · refine ⟨t1.learned, t1.heat, t1.phase, t1.limits, t1.head, t1.broken, t1.model, t1.trace, t1.many, t1.room, ?_, fun d hd => ?_⟩
          · show(wPut _ _ _).length=_;rw[wPut_len];exact t1.wlen
          · show clPut _ _ _ d=_;unfold clPut;rw[if_neg hd];exact t1.cl d hd
      · rename_i hfn
        split at ht
        · injection ht with h1 ht
          injection ht with h3 ht
          subst ht
          exact⟨hi1,by rw[hw1];exact hs.mono (by omega),t1,ls1,hc1,hl1,hlen⟩
        · rename_i hnm
          injection ht with h1 ht
          injection ht with h3 ht
          subst ht
          have h0:isV v.value (ls1.getD 0 0)=0:=by omega
          refine⟨hi1.assign (hl1.get (by omega)) (by rw[hval1];exact isV_zero h0) _,?_,⟨t1.learned,t1.heat,t1.phase,t1.limits,t1.head,t1.broken,t1.model,t1.trace,t1.many,t1.room,t1.wlen,t1.cl⟩,ls1,hc1,hl1,hlen⟩
          show ShortN (B+1) v1.watches
          rw[hw1]
          exact hs.mono (by omega)
def setW(v:Sv)(W:List (List Nat)):Sv:={ v with watches:=W }
def moved(v:Sv)(l:Int)(ls:List Int)(b:Bool×Bool):Option Int:=
  if b.2=true then none else
  let ls1:=if ls.getD 0 0=l then swapL ls 0 1 else ls
  if 0<isV v.value (ls1.getD 0 0)then none else
  (findM v.value (ls1.drop 2) 2).map fun i=>ls1.getD i 0
def movM(W:List (List Nat))(c:Nat):Option Int→List (List Nat)
  | none=>W
  | some y=>wPut W (place y) c
theorem touch_w (v : Sv) (c : Nat) (l : Int) (ls : List Int) (b : Bool × Bool) (W : List (List Nat)) :
    (touchR v c l ls b).2.2.watches=movM v.watches c (moved v l ls b) ∧
    touchR (setW v W) c l ls b=((touchR v c l ls b).1,(touchR v c l ls b).2.1,setW (touchR v c l ls b).2.2 (movM W c (moved v l ls b)))∧((moved v l ls b).isSome=true→(touchR v c l ls b).1=false):=by
  unfold touchR moved
  by_cases hb:b.2=true
  · rw[if_pos hb,if_pos hb,if_pos hb];exact⟨rfl,rfl,fun h=>rfl⟩
  · rw[if_neg hb,if_neg hb,if_neg hb]
    dsimp only
    generalize (if ls.getD 0 0=l then swapL ls 0 1 else ls)=ls1
    by_cases hp:0<isV v.value (ls1.getD 0 0)
    · have hp':0<isV (setW v W).value (ls1.getD 0 0):=hp
      rw[if_pos hp,if_pos hp,if_pos hp'];exact⟨rfl,rfl,fun h=>by cases h⟩
    · have hp':¬ 0<isV (setW v W).value (ls1.getD 0 0):=hp
      rw[if_neg hp,if_neg hp,if_neg hp']
      have hv:(setW v W).value=v.value:=rfl
      rw[hv]
      cases hm:findM v.value (ls1.drop 2) 2 with
      | some i=>exact⟨rfl,rfl,fun h=>rfl⟩
      | none =>
        dsimp only
        by_cases hn:isV v.value (ls1.getD 0 0)<0
        · simp only[if_pos hn];exact⟨rfl,rfl,fun h=>by cases h⟩
        · simp only[if_neg hn];exact⟨rfl,rfl,fun h=>by cases h⟩
theorem findM_val{val:List Int}:∀ {l:List Int}{k i:Nat},findM val l k=some i→∃y,l[i - k]? = some y∧k≤i∧0≤isV val y
  | [],k,i,h=>by cases h
  | x::l,k,i,h=>by
    unfold findM at h
    split at h
    · rename_i hx
      injection h with h;subst h;exact⟨x,by rw[Nat.sub_self];rfl,Nat.le_refl _,hx⟩
    · obtain⟨y,h1,h2,h3⟩:=findM_val h
      refine⟨y,?_,by omega,h3⟩
      rw[show i - k=(i - (k+1))+1 by omega]
      exact h1
theorem moved_val {v : Sv} {l : Int} {ls : List Int} {b : Bool × Bool} {y : Int} (h : moved v l ls b = some y) : 0 ≤ isV v.value y := by
  unfold moved at h
  split at h
  · cases h
  · dsimp only at h
    generalize (if ls.getD 0 0=l then swapL ls 0 1 else ls)=ls1 at h
    split at h
    · cases h
    · cases hm:findM v.value (ls1.drop 2) 2 with
      | none=>rw[hm]at h;cases h
      | some i =>
        rw[hm]at h
        injection h with h
        obtain⟨z,h1,h2,h3⟩:=findM_val hm
        rw[List.getElem?_drop,show 2+(i - 2)=i by omega]at h1
        have:ls1.getD i 0=z:=by rw[List.getD_eq_getElem?_getD,h1];rfl
        rw[← h]
        dsimp only
        rw[this]
        exact h3
theorem set_put{W:List (List Nat)}{w k c:Nat}{M:List Nat}(h:k≠w):wPut (W.set w M) k c=(wPut W k c).set w M:=by
  unfold wPut
  have:(W.set w M).getD k []=W.getD k []:=by
    rw[List.getD_eq_getElem?_getD,List.getD_eq_getElem?_getD,List.getElem?_set,if_neg (fun e=>h e.symm)]
  rw[this,List.set_comm _ _ (fun e=>h e.symm)]
def WL(n:Nat)(v:Sv)(L:List Nat):Prop:=∀c∈L,∃ls b,v.cl c=some (ls,b)∧ClsOk n ls∧2≤ls.length
theorem moved_ne{n:Nat}{v:Sv}{l:Int}(hl:isV v.value l<0){ls:List Int}{b:Bool×Bool}{y:Int}(hl0:l≠0)(hy0:y≠0)(h:moved v l ls b=some y):place y≠place l:=fun e=>by
  have:=moved_val h
  have e:=place_inj hy0 hl0 e
  rw[e]at this
  omega
theorem moved_mem {n : Nat} {v : Sv} {l : Int} {ls : List Int} {b : Bool × Bool} {y : Int} (hc : ClsOk n ls) (h2 : 2 ≤ ls.length) (h : moved v l ls b = some y) : y ∈ ls := by
  unfold moved at h
  split at h
  · cases h
  · dsimp only at h
    have hsub:∀y,y∈(if ls.getD 0 0=l then swapL ls 0 1 else ls)→y∈ls:=fun y hy=>by
      split at hy
      · exact mem_swap (by omega) (by omega) hy
      · exact hy
    generalize (if ls.getD 0 0=l then swapL ls 0 1 else ls)=ls1 at h hsub
    split at h
    · cases h
    · cases hm:findM v.value (ls1.drop 2) 2 with
      | none=>rw[hm]at h;cases h
      | some i =>
        rw[hm]at h
        injection h with h
        have hi:=findM_lt hm
        rw[List.length_drop]at hi
        rw[← h]
        exact hsub _ (List.mem_of_getElem? (getD_get (by omega)))
theorem touch_setw{n:Nat}{v:Sv}{c:Nat}{l:Int}{ls:List Int}{b:Bool×Bool}(hl:isV v.value l<0)(hl0:l≠0)(hc:ClsOk n ls)(h2:2≤ls.length)(M:List Nat):
    touchR (setW v (v.watches.set (place l) M)) c l ls b=((touchR v c l ls b).1,(touchR v c l ls b).2.1,setW (touchR v c l ls b).2.2 ((touchR v c l ls b).2.2.watches.set (place l) M))∧(touchR v c l ls b).2.2.watches[place l]? = v.watches[place l]? := by
  obtain⟨h1,h3,_⟩:=touch_w v c l ls b (v.watches.set (place l) M)
  rw[h3,h1]
  cases hm:moved v l ls b with
  | none=>exact⟨rfl,rfl⟩
  | some y =>
    have hne:=moved_ne (n:=n) hl hl0 (hc.1 y (moved_mem hc h2 hm)).1 hm
    refine⟨?_,?_⟩
    · show(_,_,setW _ (wPut (v.watches.set (place l) M) (place y) c))=_
      rw[set_put hne];rfl
    · show(v.watches.set _ _)[_]? = _
      rw[List.getElem?_set,if_neg hne]
def Tot(W:List (List Nat)):Nat:=(W.map List.length).sum
theorem Tot.set{W:List (List Nat)}:∀ {k:Nat}{L:List Nat}(M:List Nat),W[k]? = some L→Tot (W.set k M)+L.length=Tot W+M.length:=by
  induction W with
  | nil=>intro k L M h;simp at h
  | cons A W ih =>
    intro k L M h
    cases k with
    | zero =>
      have:A=L:=by simpa using h
      subst this
      simp[Tot];omega
    | succ k =>
      have:=ih (k:=k) M (by simpa using h)
      simp[Tot]at *;omega
theorem Tot.le{W:List (List Nat)}{L:List Nat}(h:L∈W):L.length≤Tot W:=by
  obtain⟨k,hk,hL⟩:=List.getElem_of_mem h
  have:=Tot.set (W:=W) (k:=k) (L:=L) [] (by rw[List.getElem?_eq_getElem hk,hL])
  have h0:([]:List Nat).length=0:=rfl
  omega
theorem Tot.put(W:List (List Nat))(k c:Nat):Tot (wPut W k c)≤Tot W+1:=by
  unfold wPut
  rcases Nat.lt_or_ge k W.length with h | h
  · have hg := getD_get (d := ([] : List Nat)) h
    have:=Tot.set (W.getD k []++[c]) hg
    rw[List.length_append]at this
    have h1:[c].length=1:=rfl
    omega
  · rw[List.set_eq_of_length_le h];omega
theorem Tot.short{W:List (List Nat)}(h:Tot W≤100000000):Short W:=fun L hL=>Nat.le_trans (Tot.le hL) h
theorem Tot.shortN(W:List (List Nat)):ShortN (Tot W) W:=fun L hL=>Tot.le hL
theorem touch_tot(v:Sv)(c:Nat)(l:Int)(ls:List Int)(b:Bool×Bool):Tot (touchR v c l ls b).2.2.watches+(if (touchR v c l ls b).1=true then 1 else 0)≤Tot v.watches+1:=by
  obtain⟨h1,_,h3⟩:=touch_w v c l ls b []
  rw[h1]
  cases hm:moved v l ls b with
  | none=>show Tot v.watches+_≤_;split<;>omega
  | some y =>
    rw[hm]at h3
    rw[h3 rfl]
    have:=Tot.put v.watches (place y) c
    show Tot (wPut _ _ _)+0≤_
    omega
def propIn(l:Int):List Nat→List Nat→Sv→List Nat×Option Nat×Sv
  | [],K,v=>(K,none,v)
  | c::rest,K,v=>match v.cl c with
    | none=>(K,none,v)
    | some (ls,b) =>
      let r:=touchR v c l ls b
      let K':=if r.1=true then K++[c]else K
      if r.2.1=true then (K'++rest,some c,r.2.2)else propIn l rest K' r.2.2
theorem touch_wl{n:Nat}{v v':Sv}{c:Nat}(t:Touched v v' c)(hc:∃ls b,v'.cl c=some (ls,b)∧ClsOk n ls∧2≤ls.length){L:List Nat}(h:WL n v L):WL n v' L:=fun d hd=>by
  by_cases e:d=c
  · rw[e];exact hc
  · rw[t.cl d e];exact h d hd
theorem touch_false {n : Nat} {v : Sv} (h : Inv1 n v) {c : Nat} {l y : Int} {ls : List Int} {b : Bool × Bool} (hy : isV v.value y ≠ 0) (hcl : ClsOk n ls) (h2 : 2 ≤ ls.length) : isV (touchR v c l ls b).2.2.value y = isV v.value y := by
  unfold touchR
  split
  · rfl
  · dsimp only
    have hl1:ClsOk n (if ls.getD 0 0=l then swapL ls 0 1 else ls)∧(if ls.getD 0 0=l then swapL ls 0 1 else ls).length=ls.length:=by
      split
      · exact⟨hcl.swap (by omega) (by omega),swapL_len _ _ _⟩
      · exact⟨hcl,rfl⟩
    generalize (if ls.getD 0 0=l then swapL ls 0 1 else ls)=ls1 at hl1
    split
    · rfl
    · rename_i hp
      cases hm:findM v.value (ls1.drop 2) 2 with
      | some i=>rfl
      | none =>
        dsimp only
        split
        · rfl
        · rename_i hn
          have h0:isV v.value (ls1.getD 0 0)=0:=by omega
          have h0':=isV_zero h0
          show isV (v.value.set (ls1.getD 0 0).natAbs _) y=_
          have hlt:(ls1.getD 0 0).natAbs<v.value.length:=by
            have:=(hl1.1.get (k:=0) (by omega)).2
            rw[h.fit.siz.value];omega
          have hne:y.natAbs≠(ls1.getD 0 0).natAbs:=fun e=>by
            apply hy
            unfold isV
            rw[e,h0']
            split<;>rfl
          unfold isV
          rw[getD_set hlt,if_neg hne]
theorem Inv1.setW{n:Nat}{v:Sv}(h:Inv1 n v){k:Nat}{M:List Nat}(hM:WL n v M):Inv1 n (setW v (v.watches.set k M)):=by
  obtain⟨⟨hz,hv,hli,hlm⟩,g2,g3,g4,g5⟩:=h
  refine⟨⟨⟨hz.small,by show(List.set _ _ _).length=_;rw[List.length_set];exact hz.w,hz.value,hz.level,hz.why,hz.heat,hz.phase,hz.trail,hz.limits⟩,hv,hli,hlm⟩,g2,g3,g4,fun L hL=>?_⟩
  rcases List.mem_or_eq_of_mem_set hL with h' | h'
  · exact g5 L h'
  · rw[h'];exact hM
structure InKeep(n:Nat)(l:Int)(v v':Sv)(K':List Nat):Prop where
  inv:Inv1 n v'
  wl:WL n v' K'
  w:v'.watches[place l]? = v.watches[place l]?
  wlen:v'.watches.length=v.watches.length
  limits:v'.limits=v.limits
  head:v'.head=v.head
theorem propIn_keep {n : Nat} {l : Int} (hl0 : l ≠ 0) : ∀ (rest K : List Nat) (v : Sv), Inv1 n v → WL n v K → WL n v rest → isV v.value l < 0 →
    InKeep n l v (propIn l rest K v).2.2 (propIn l rest K v).1∧Tot (propIn l rest K v).2.2.watches+(propIn l rest K v).1.length≤Tot v.watches+K.length+rest.length
  | [],K,v,hi,hK,hr,hf=>⟨⟨hi,hK,rfl,rfl,rfl,rfl⟩,by show Tot v.watches+K.length≤Tot v.watches+K.length+0;omega⟩
  | c::rest,K,v,hi,hK,hr,hf=>by
    obtain⟨ls,b,hc,hcl,h2⟩:=hr c List.mem_cons_self
    have hti:=touch_inv hi (Tot.shortN _) hc hcl h2 (l:=l) (a:=(touchR v c l ls b).1) (f:=(touchR v c l ls b).2.1) (v':=(touchR v c l ls b).2.2) rfl
    obtain⟨t1,t2,t3,ls',t4,t5,t6⟩:=hti
    have htot:=touch_tot v c l ls b
    have hw:=(touch_setw (c:=c) (b:=b) hf hl0 hcl h2 []).2
    have hfl:isV (touchR v c l ls b).2.2.value l<0:=by rw[touch_false hi (by omega) hcl h2];exact hf
    have hcc:∃ls1 b1,(touchR v c l ls b).2.2.cl c=some (ls1,b1)∧ClsOk n ls1∧2≤ls1.length:=⟨ls',b,t4,t5,by omega⟩
    have hr':WL n (touchR v c l ls b).2.2 rest:=touch_wl t3 hcc fun d hd=>hr d (List.mem_cons_of_mem _ hd)
    have hK':WL n (touchR v c l ls b).2.2 K:=touch_wl t3 hcc hK
    have hK2:WL n (touchR v c l ls b).2.2 (if (touchR v c l ls b).1=true then K++[c]else K):=by
      split
      · intro d hd
        rcases List.mem_append.1 hd with hd | hd
        · exact hK' d hd
        · rw[List.mem_singleton.1 hd];exact hcc
      · exact hK'
    have hKl:(if (touchR v c l ls b).1=true then K++[c]else K).length=K.length+(if (touchR v c l ls b).1=true then 1 else 0):=by
      split
      · rw[List.length_append];rfl
      · rfl
    unfold propIn
    rw[hc]
    dsimp only
    generalize (if (touchR v c l ls b).1=true then K++[c]else K)=K' at hK2 hKl
    generalize (if (touchR v c l ls b).1=true then 1 else 0)=d at hKl htot
    have hcl:(c::rest).length=rest.length+1:=rfl
    by_cases hff:(touchR v c l ls b).2.1=true
    · rw [if_pos hff]
      refine⟨⟨t1,fun d hd=>?_,hw,t3.wlen,t3.limits,t3.head⟩,?_⟩
      · rcases List.mem_append.1 hd with hd | hd
        · exact hK2 d hd
        · exact hr' d hd
      · show Tot (touchR v c l ls b).2.2.watches+(K'++rest).length≤_
        rw[List.length_append]
        omega
    · rw[if_neg hff]
      obtain⟨k1,k2⟩:=propIn_keep hl0 rest K' _ t1 hK2 hr' hfl
      exact⟨⟨k1.inv,k1.wl,k1.w.trans hw,k1.wlen.trans t3.wlen,k1.limits.trans t3.limits,k1.head.trans t3.head⟩,by omega⟩
end
end Go.Proofs.Ytilhhmkdcoajnaa.Am
