/- The statement LinPlaces: what holds at its stations; Add and Sub, walked; conditions: none. -/
import Derived.Test.YtjnkfbpadpmakaaGreatDoorAmM10
import Derived.Test.YtjnkfbpadpmakaaGreatDoorAmM05
set_option linter.unusedVariables false
set_option linter.unusedSimpArgs false
set_option maxRecDepth 16000
namespace Go.Proofs.YtjnkfbpadpmakaaGreatDoor.Am
open Go Go.Proofs
noncomputable section
theorem H7{s:AE}{e sz:Nat}{a:Option (Nat×Nat)}{cap:Option Nat}{n:Nat}{cs:List AV}(h:AS s.next s a cs)(hl:cs.length=n * sz)(h0:0<sz):Co Tryz.prog s e sz (.slice a n cap)=some (n,cs):=by
 rcases A0R n with rfl | hn
 ·have:cs=[]:=A0w (by omega)
  subst this
  cases a with
  | none=>rfl
  | some io=>obtain⟨i,o⟩:=io;rfl
 ·have hp:0<n * sz:=A1B hn h0
  obtain⟨i,o,rfl,_,_⟩:=h 0 cs[0] (zW (by omega))
  have hld:=JM (o:=s.heap.get i) cs o (fun j u hj=>by
   obtain⟨i',o',e,_,h3⟩:=h j u hj
   injection e with e
   injection e with e1 e2
   subst e1;subst e2
   exact h3) (by intro e;rw[e]at hl;simp at hl;omega)
  rw[hl]at hld
  show(Nh s i o n sz).bind _=_
  rw[show Nh s i o n sz=CL s i o (n * sz)from by unfold Nh;rw[Dp (show n≠0 by omega)];rfl,JL,hld]
  rfl
section
variable{E:CR}{s:AE}
theorem sc(hE:G7 E){vl:AV}{C:Rat}{vs:List Int}{cs:List Rat}(hl:LI s vl C vs cs 3)(hM:min cs.length vs.length≤8){vars:List Int}{wals:List Rat}{av ac:Option (Nat×Nat)}{cv cc:Option Nat}{cells:List AV}(hcv:AS s.next s av (vars.map iv))(hrat:Cp s ac wals 3 cells)(hvl:vars.length≤1000000000)
  {K:AV→AE→Prop} (hK:∀s' w,Aa s.next s s'→QR s.next s' w (C+Bf (E3 vars wals) vs cs)→QH (C+Bf (E3 vars wals) vs cs) 500→K w s'):WF E 13 [vl,.slice av vars.length cv,.slice ac wals.length cc] K s:=by
 generalize hM':min cs.length vs.length=M at hM
 have h1:(M+1) * (3+2)≤9 * (3+2):=zq _ (by omega)
 have h2:(M+2) * (1+(M+1) * (3+2)+3+1)≤10 * (1+9 * (3+2)+3+1):=A0W (by omega) (by omega)
 have h3:M * (1+(M+1) * (3+2)+3+1)≤8 * (1+9 * (3+2)+3+1):=A0W (by omega) (by omega)
 exact vI hE hl (by omega) hM' hcv hrat hvl (by omega) rfl (by omega) fun s' w o h q=>hK s' w o h (q.le (by omega))
end
theorem Ci{s s':AE}{t:TypeId}{b:Bool}(ht:EO Tryz.prog t=some b){i o:Nat}{v:AV}(o1:Aa s.next s s')(hi:i<s.next)(h:AB Tryz.prog s t (.ptr (some (i,o)))=some v):AB Tryz.prog s' t (.ptr (some (i,o)))=some v:=by
  cases b
  · rw [Wf ht] at h ⊢
    rw[o1.2 i hi];exact h
  · rw [Wg ht] at h ⊢
    rw[o1.2 i hi];exact h
theorem M7:Ad Tryz.prog 27 0 (zipIdx [] [])=some (R 3 1 false []):=by kernel_rfl
theorem V9(l:List Int):Aq (l.map iv)=true:=by
 induction l with
 | nil=>rfl
 | cons x l ih=>show((iv x).isCell && Aq (l.map iv))=true;rw[ih];rfl
theorem UP{s:AE}{i e sz:Nat}{sp:Bool}{cs:List AV}(hg:s.heap.get i=some (R e sz sp cs)):CL s i 0 cs.length=some cs:=by
 rw[JL,hg,Wp (by omega)]
 simp
theorem B9.row{s:AE}{i e sz n:Nat}{cs:List AV}(hi:i<s.next)(hg:s.heap.get i=some (R e sz false cs))(hl:cs.length=n * sz):B9 e s (.slice (some (i,0)) n (some n)) n sz cs []:=
 .inl ⟨some (i,0),rfl,rfl,hl,fun h=>(by cases h),fun i' o' h=>by
  injection h with h
  injection h with h1 h2
  subst h1;subst h2
  exact⟨hi,by rw[← hl];exact UP hg⟩⟩
theorem QO{s:AE}{v:AV}{n:Nat}{cs:List AV}{O:List Nat}(hd:B9 3 s v n 1 cs O){a:Option (Nat×Nat)}{cap:Option Nat}{l:List Int}(h:AS s.next s a (l.map iv))(hn:n≤1000000)(hl:l.length≤1000000):
  ∃v' s' O',Aj Tryz.prog s [27,27] [v,.slice a l.length cap]=some (v',s')∧B9 3 s' v' (n+l.length) 1 (cs++l.map iv) O'∧s.next≤s'.next∧(∀j,j<s.next→j ∉ O→s'.heap.get j=s.heap.get j)∧(∀j∈O',j∈O∨s.next≤j):=by
 obtain⟨v',s',O',h1,h2,h3,_,h5,h6,_⟩:=hd.append Tryz.underlying27 Jm xQ (by decide) P9 Ux (H7 (e:=3) (sz:=1) (cap:=cap) (n:=l.length) h (by simp) (by decide)) (by simp) (V9 l) (by omega) (by omega)
 exact⟨v',s',O',h1,h2,h3,h5,h6⟩
theorem Xq        {s : AE}  {a : Option (Nat × Nat)} {cs : List Rat} {k : Nat} {cells : List AV} (h : Cp     s a cs k cells) : Aq       cells = true := by
  have hp : ∀ (n : Nat) (l : List AV), l.length = n * 3 → (∀ i, i < n → Aq       ((l.drop (i * 3)).take 3) = true) → Aq       l = true := by
    intro n
    induction n with
    | zero=>intro l hl _;rw[A0w (by omega:l.length=0)];rfl
    | succ n ih =>
      intro l hl hc
      have e:l=l.take 3++l.drop 3:=(A0g 3 l).symm
      have h0:Aq (l.take 3)=true:=by have:=hc 0 (by omega);simpa using this
      have h1:=ih (l.drop 3) (by rw[A0C];omega) fun i hi=>by
        have:=hc (i+1) (by omega)
        rw[A0h,show 3+i * 3=(i+1) * 3 by omega]
        exact this
      have happ:∀x y:List AV,Aq x=true→Aq y=true→Aq (x++y)=true:=by
        intro x
        induction x with
        | nil=>intro y _ hy;exact hy
        | cons c x ihx =>
          intro y hx hy
          have hx':(c.isCell && Aq x)=true:=hx
          rw[Bool.and_eq_true]at hx'
          show(c.isCell && Aq (x++y))=true
          rw[hx'.1,ihx y hx'.2 hy];rfl
      rw[e];exact happ _ _ h0 h1
  refine hp cs.length cells h.len fun i hi=>?_
  obtain⟨_,_,_,_,_,_,_,e⟩:=(h.rat i cs[i] (zW hi)).shape
  injection e with e
  rw[e];rfl
section
variable{E:CR}{s:AE}
end
theorem fh(i o:Nat):AJ Tryz.prog 31 (.ptr (some (i,o))) (.int .i64 0)=some (.ptr (some (i,o+0))):=by kernel_rfl
theorem fi(i o:Nat):AJ Tryz.prog 31 (.ptr (some (i,o))) (.int .i64 1)=some (.ptr (some (i,o+5))):=by kernel_rfl
section
variable{E:CR}{s:AE}
end
theorem iV{t e:TypeId}{n:Nat}(ht:Tryz.prog.underlying t=some (.array n e)){W:World}{base:Nat}{v:Value}(h:Value.okWide Tryz.prog W .any base t v){ρ:BU}{us:List AV}(hr:AW ρ us v.cells.toList):Ae ρ (.agg us) v:=by
 unfold Value.okWide at h
 rw[ht]at h
 obtain⟨cs,rfl,_⟩:=h
 exact .agg hr
theorem eY{P:Program}{W:World}{base:Nat}{u:TypeId}{a:Addr}(h:Cell.okWide P W .any base u (.slice (some a) 0 0)):0<W.heap.size:=by
 unfold Cell.okWide at h
 have h':Cell.ok P W .any base u (.slice (some a) 0 0):=by
  split at h<;>first | exact h | (rename_i e;cases e) | skip
 unfold Cell.ok at h'
 split at h'<;>first | (exact h'.elim) | skip
 all_goals (rename_i e1 e2;first | (cases e2;done) | skip)
 all_goals (first | (injection e2 with q1 q2 q3;injection q1 with q1;subst q1) | skip)
 all_goals
  obtain⟨_,_,_,_,row,cells,hs,_⟩:=h'
  unfold World.shape? at hs
  cases hb:W.heap[a.block]? with
  | none=>rw[hb]at hs;cases hs
  | some o =>
   rcases zX a.block W.heap.size with h' | h'
   ·omega
   ·rw[Array.getElem?_eq_none h']at hb;cases hb
theorem iU{t e:TypeId}{n:Nat}(ht:Tryz.prog.underlying t=some (.array n e)){W:World}{base:Nat}{v:Value}(h:Value.okWide Tryz.prog W .any base t v)(a:Addr)(ha:.slice (some a) 0 0∈v.cells.toList):0<W.heap.size:=by
 unfold Value.okWide at h
 rw[ht]at h
 obtain⟨cs,rfl,_,ts,_,_,h5⟩:=h
 obtain⟨i,hi⟩:=List.getElem?_of_mem ha
 have hi':cs[i]? = some (.slice (some a) 0 0):=by
  have:cs.toList[i]? = some (.slice (some a) 0 0):=hi
  simpa using this
 obtain⟨u,_,hu⟩:=h5 i _ hi'
 exact eY hu
def pU(_:AE)(us:List AV)(x:Nat):Prop:=us=[A6 x]∧x<LB
theorem um(s s':AE)(us:List AV)(x:Nat)(h:pU s us x)(_:Aa s.next s s'):pU s' us x:=h
def pJ(_:AE)(us:List AV)(x:Int):Prop:=us=[iv x]∧i64 x
theorem gO(s s':AE)(us:List AV)(x:Int)(h:pJ s us x)(_:Aa s.next s s'):pJ s' us x:=h
def pQ(s:AE)(us:List AV)(_:Unit):Prop:=QA s (.agg us)
theorem gP(s s':AE)(us:List AV)(x:Unit)(h:pQ s us x)(o:Aa s.next s s'):pQ s' us x:=QA.old h o
def pL(s:AE)(us:List AV)(_:Unit):Prop:=LA s (.agg us)
theorem i9{s:AE}{a:Option (Nat×Nat)}{cap:Option Nat}{n sz:Nat}(h:lE s a cap n sz):EB sz s a cap n:=by
 rcases h with h | ⟨rfl,rfl,i,r,h3,h4,h5,h6⟩
 ·exact .inl h
 ·exact .inr ⟨rfl,i,0,r,h3,h4,h5,h6,by omega⟩
theorem OQ{α:Type}{p:AE→List AV→α→Prop}{s:AE}{us:List AV}{xs:List α}(h:GS p 1 s us xs)(f:α→AV)(hp:∀vs x,p s vs x→vs=[f x]):
  ∃a cap,us=[.slice a xs.length cap]∧EB 1 s a cap xs.length∧AS s.next s a (xs.map f):=by
 obtain⟨a,cap,h1,h2,h3,h4⟩:=h
 refine⟨a,cap,h1,i9 h3,fun k u hu=>?_⟩
 rw[A0N]at hu
 cases hx:xs[k]? with
 | none=>rw[hx]at hu;cases hu
 | some x =>
  rw[hx]at hu
  injection hu with hu
  subst hu
  obtain⟨i,o,vs,g1,g2,_,g4,g5⟩:=h4 k x hx
  rw[hp _ _ g5]at g4
  have:=g4 0 _ rfl
  simp only[zf,zv]at this
  exact⟨i,o,g1,g2,this⟩
theorem OR{α:Type}{p:AE→List AV→α→Prop}{s:AE}{us:List AV}{xs:List α}{sz:Nat}(h:GS p sz s us xs){x:α}(hx:x∈xs):∃vs,p s vs x:=by
 obtain⟨a,cap,h1,h2,h3,h4⟩:=h
 obtain⟨k,hk⟩:=List.mem_iff_getElem?.1 hx
 obtain⟨i,o,vs,_,_,_,_,g5⟩:=h4 k x hk
 exact⟨vs,g5⟩
theorem R9{s:AE}{us:List AV}{xs:List Nat}(h:GS pU 1 s us xs):∃v,us=[v]∧By s v xs∧Bi xs:=by
  obtain⟨a,cap,rfl,h1,h2⟩:=OQ h A6 fun vs x hx=>hx.1
  refine⟨_,rfl,⟨a,cap,rfl,?_,h2⟩,fun x hx=>?_⟩
  · rcases h1 with h1 | ⟨h1, i, o, r, h3, h4, h5, h6, h7⟩
    · exact .inl h1
    · exact .inr ⟨h1,i,o,r,h3,h4,h5,h6,by omega⟩
  · obtain⟨vs,hv⟩:=OR h hx
    exact hv.2
theorem ints_at{s:AE}{us:List AV}{xs:List Int}(h:GS pJ 1 s us xs):∃a cap,us=[.slice a xs.length cap]∧EB 1 s a cap xs.length∧AS s.next s a (xs.map iv)∧∀n∈xs,i64 n:=by
 obtain⟨a,cap,rfl,h1,h2⟩:=OQ h iv fun vs x hx=>hx.1
 exact⟨a,cap,rfl,h1,h2,fun x hx=>by obtain⟨vs,hv⟩:=OR h hx;exact hv.2⟩
theorem WP{s:AE}{us:List AV}{xs:List Unit}(h:GS pQ 3 s us xs):∃a cap cells,us=[.slice a xs.length cap]∧Gy s a xs.length cells:=by
 obtain⟨a,cap,h1,h2,h3,h4⟩:=h
 have key:∀k,∃vs:List AV,k<xs.length→vs.length=3∧QA s (.agg vs)∧∃i o,a=some (i,o)∧i<s.next∧∀j u,vs[j]? = some u→DB s i (o+k * 3+j)=some u:=by
  intro k
  by_cases hk:k<xs.length
  ·obtain⟨i,o,vs,g1,g2,g3,g4,g5⟩:=h4 k xs[k] (zW hk)
   exact⟨vs,fun _=>⟨g3,g5,i,o,g1,g2,g4⟩⟩
  ·exact⟨[],fun h=>absurd h hk⟩
 let f:Nat→List AV:=fun k=>Classical.choose (key k)
 have hf:∀k,k<xs.length→(f k).length=3∧QA s (.agg (f k))∧∃i o,a=some (i,o)∧i<s.next∧∀j u,(f k)[j]? = some u→DB s i (o+k * 3+j)=some u:=fun k=>Classical.choose_spec (key k)
 let D:List CW:=(List.range xs.length).map fun k=>((0:Int),(0:Rat),AV.agg (f k))
 have hD:∀t∈D,t.2.2.cells.length=3:=fun t ht=>by
  obtain⟨k,hk,rfl⟩:=List.mem_map.1 ht
  exact(hf k (List.mem_range.1 hk)).1
 obtain⟨p1,p2⟩:=Hy D hD
 have hDk:∀k,k<xs.length→D[k]? = some ((0:Int),(0:Rat),AV.agg (f k)):=fun k hk=>by
  show((List.range xs.length).map _)[k]? = _
  rw[A0N,A1b hk];rfl
 have hDl:D.length=xs.length:=by show((List.range xs.length).map _).length=_;simp
 have hpt:∀k,k<xs.length→((Dc D).drop (k * 3)).take 3=f k:=fun k hk=>p2 k _ (hDk k hk)
 refine⟨a,cap,Dc D,h1,by rw[p1,hDl],fun j u hj=>?_,fun k hk=>by rw[hpt k hk];exact(hf k hk).2.1⟩
 have hjl:j<xs.length * 3:=by
  rcases zX j (Dc D).length with h' | h'
  ·rw[p1,hDl]at h';exact h'
  ·rw[zj h']at hj;cases hj
 have hk:j / 3<xs.length:=by omega
 obtain⟨_,_,i,o,e1,e2,e3⟩:=hf (j / 3) hk
 have hg:(f (j / 3))[j % 3]? = some u:=by
  rw[← hpt (j / 3) hk,A0m (by omega),A0Z,show j / 3 * 3+j % 3=j by omega]
  exact hj
 have:=e3 _ _ hg
 rw[show o+j / 3 * 3+j % 3=o+j by omega]at this
 exact⟨i,o,e1,e2,this⟩
section
variable{H:Type}{enc:TypeId×Value→H}{w:World}{held:Bool}
theorem coU:Tryz.prog.cellsOf 76=1:=by kernel_rfl
theorem w9:Tryz.prog.cellsOf 22=1:=by kernel_rfl
theorem coB:Tryz.prog.cellsOf 4=1:=by kernel_rfl
theorem zT:Tryz.prog.cellsOf 3=1:=by kernel_rfl
theorem xj:Tryz.prog.cellsOf 27=1:=by kernel_rfl
theorem coI:Tryz.prog.cellsOf 24=2:=by kernel_rfl
theorem xR:Tryz.prog.cellsOf 26=3:=by kernel_rfl
theorem xr:Tryz.prog.cellsOf 28=1:=by kernel_rfl
theorem xo:Tryz.prog.cellsOf 30=5:=by kernel_rfl
theorem xp:Tryz.prog.cellsOf 31=10:=by kernel_rfl
theorem XF(n:Nat)(cs:List Value)(y:DataW H×List MemPlace)
  (h:DataW.trod enc Tryz.prog w 0 (fun _=>true) held n 76 cs=some y) (ρ:BU) (s:AE) (hd:Fz Tryz.prog w ρ s):KZ Tryz.prog w pU cs ρ s:=by
 obtain⟨m,rfl,_,h3⟩:=DataW.trod_int Tryz.underlying76 h
 simp only[Lit.wf,Bool.and_eq_true,decide_eq_true_eq]at h3
 have h1:0≤m:=h3.1
 have h2:m≤4294967295:=h3.2
 obtain⟨k,rfl⟩:∃k:Nat,m=k:=⟨m.toNat,by omega⟩
 exact⟨ρ,s,[.int .u32 k],k,hd,BU.le_refl ρ,Aa.refl _ _,.cons (.int .u32 _) .nil,rfl,by show k<4294967296;omega⟩
theorem Nv(n:Nat)(cs:List Value)(y:DataW H×List MemPlace)
  (h:DataW.trod enc Tryz.prog w 0 (fun _=>true) held n 3 cs=some y) (ρ:BU) (s:AE) (hd:Fz Tryz.prog w ρ s):KZ Tryz.prog w pJ cs ρ s:=by
 obtain⟨m,rfl,_,h3⟩:=DataW.trod_int Tryz.underlying3 h
 refine⟨ρ,s,[.int .i64 m],m,hd,BU.le_refl ρ,Aa.refl _ _,.cons (.int .i64 m) .nil,rfl,?_⟩
 simp only[Lit.wf,Bool.and_eq_true,decide_eq_true_eq]at h3
 have h1:-9223372036854775808≤m:=h3.1
 have h2:m≤9223372036854775807:=h3.2
 exact⟨h1,by omega⟩
theorem Kg{n:Nat}{cs:List Value}{y:DataW H×List MemPlace}(h:DataW.trod enc Tryz.prog w 0 (fun _=>true) held n 22 cs=some y)(hw:∀a,.slice (some a) 0 0∈cs→0<w.heap.size){ρ:BU}{s:AE}(hd:Fz Tryz.prog w ρ s):KZ Tryz.prog w (GS pU 1) cs ρ s:=
 Ek um Tryz.underlying22 coU (by decide) (fun _ n cs y h _=>XF n cs y h) h (fun a ha=>hw a (by rw[ha];exact A1d.2 rfl)) hd
theorem J4{n:Nat}{cs:List Value}{y:DataW H×List MemPlace}(h:DataW.trod enc Tryz.prog w 0 (fun _=>true) held n 26 cs=some y)(hw:∀a,.slice (some a) 0 0∈cs→0<w.heap.size){ρ:BU}{s:AE}(hd:Fz Tryz.prog w ρ s):KZ Tryz.prog w pQ cs ρ s:=by
 obtain⟨xs,m,_,rfl,h3,h4,h5⟩:=DataW.trod_struct Tryz.underlying26 h
 rw[xR]at h3
 have h4:xs.length=2:=h4
 match cs,h3,hw,h5 with
 | [c0,c1,c2],_,hw,h5 =>
  have e0:DataW.trod enc Tryz.prog w 0 (fun _=>true) held m 24 (([c0,c1,c2].drop 0).take (Tryz.prog.cellsOf 24))=xs[0]? := h5 0 _ rfl
  have e1:DataW.trod enc Tryz.prog w 0 (fun _=>true) held m 22 (([c0,c1,c2].drop 2).take (Tryz.prog.cellsOf 22))=xs[1]? := h5 1 _ rfl
  rw[coI,zW (show 0<xs.length by omega)]at e0
  rw[w9,zW (show 1<xs.length by omega)]at e1
  obtain⟨ys,m',_,_,k3,k4,k5⟩:=DataW.trod_struct Tryz.underlying24 e0
  have k4:ys.length=2:=k4
  have f0:DataW.trod enc Tryz.prog w 0 (fun _=>true) held m' 4 (([c0,c1].drop 0).take (Tryz.prog.cellsOf 4))=ys[0]? := k5 0 _ rfl
  have f1:DataW.trod enc Tryz.prog w 0 (fun _=>true) held m' 22 (([c0,c1].drop 1).take (Tryz.prog.cellsOf 22))=ys[1]? := k5 1 _ rfl
  rw[coB,zW (show 0<ys.length by omega)]at f0
  rw[w9,zW (show 1<ys.length by omega)]at f1
  obtain⟨b,q0,_⟩:=DataW.trod_bool Tryz.underlying4 f0
  injection q0 with q0
  subst q0
  obtain⟨ρ1,s1,us1,l1,g1,g2,g3,g4,g5⟩:=Kg (cs:=[c1]) f1 (fun a ha=>hw a (by simp at ha;simp[ha])) hd
  obtain⟨ρ2,s2,us2,l2,t1,t2,t3,t4,t5⟩:=Kg (cs:=[c2]) e1 (fun a ha=>hw a (by simp at ha;simp[ha])) g1
  obtain⟨u1,rfl,n1,sm1⟩:=R9 g5
  obtain⟨u2,rfl,n2,sm2⟩:=R9 t5
  refine⟨ρ2,s2,[.bool b,u1,u2],(),t1,BU.le_trans g2 t2,g3.trans (t3.mono g3.1),.cons (.bool b) ?_,b,u1,u2,l1,l2,rfl,n1.old t3,n2,sm1,sm2⟩
  cases g4 with
  | cons q1 _=>exact .cons (q1.mono t2) t4
theorem Nw        {n : Nat} {cs : List Value} {y : DataW H × List MemPlace} (h : DataW.trod enc Tryz.prog w 0 (fun _ => true) held n 30 cs = some y) (hw : ∀ a, .slice (some a) 0 0 ∈ cs → 0 < w.heap.size) {ρ : BU}  {s : AE}  (hd : Fz   Tryz.prog w ρ s) : KZ    Tryz.prog w pL cs ρ s := by
  obtain⟨xs,m,_,rfl,h3,h4,h5⟩:=DataW.trod_struct Tryz.underlying30 h
  rw[xo]at h3
  have h4:xs.length=3:=h4
  match cs,h3,hw,h5 with
  | [c0,c1,c2,c3,c4],_,hw,h5 =>
    have e0:DataW.trod enc Tryz.prog w 0 (fun _=>true) held m 26 (([c0,c1,c2,c3,c4].drop 0).take (Tryz.prog.cellsOf 26))=xs[0]? := h5 0 _ rfl
    have e1:DataW.trod enc Tryz.prog w 0 (fun _=>true) held m 27 (([c0,c1,c2,c3,c4].drop 3).take (Tryz.prog.cellsOf 27))=xs[1]? := h5 1 _ rfl
    have e2:DataW.trod enc Tryz.prog w 0 (fun _=>true) held m 28 (([c0,c1,c2,c3,c4].drop 4).take (Tryz.prog.cellsOf 28))=xs[2]? := h5 2 _ rfl
    rw[xR,zW (show 0<xs.length by omega)]at e0
    rw[xj,zW (show 1<xs.length by omega)]at e1
    rw[xr,zW (show 2<xs.length by omega)]at e2
    obtain⟨ρ1,s1,us1,x1,g1,g2,g3,g4,g5⟩:=J4 (cs:=[c0,c1,c2]) e0 (fun a ha=>hw a (by simp at ha;rcases ha with ha | ha | ha<;>simp[ha])) hd
    obtain⟨ρ2,s2,us2,l2,t1,t2,t3,t4,t5⟩:=Ek (cs:=[c3]) gO Tryz.underlying27 zT (by decide) (fun _ n cs y h _=>Nv n cs y h) e1 (fun a ha=>hw a (by simp at ha;simp[ha])) g1
    obtain⟨ρ3,s3,us3,l3,r1,r2,r3,r4,r5⟩:=Ek (cs:=[c4]) gP Tryz.underlying28 xR (by decide) (fun hpos n cs y h _ ρ s hd=>J4 h (fun _ _=>hpos) hd) e2 (fun a ha=>hw a (by simp at ha;simp[ha])) t1
    obtain⟨neg,mm,dd,lm,ld,e,q1,q2,q3,q4⟩:=g5
    injection e with e
    subst e
    obtain⟨av,capv,rfl,z1,z2,z3⟩:=ints_at t5
    obtain⟨ac,capc,cells,rfl,hra⟩:=WP r5
    obtain⟨xa,na,ka,ea⟩:=q1.shape
    obtain⟨xb,nb,kb,eb⟩:=q2.shape
    subst ea;subst eb
    have o23:Aa s1.next s1 s3:=t3.trans (r3.mono t3.1)
    refine⟨ρ3,s3,[.bool neg,.slice xa na ka,.slice xb nb kb,.slice av l2.length capv,.slice ac l3.length capc],(),r1,BU.le_trans g2 (BU.le_trans t2 r2),g3.trans (o23.mono g3.1),?_,?_⟩
    · cases g4 with
      | cons w1 w2 =>
      cases w2 with
      | cons w2 w3 =>
      cases w3 with
      | cons w3 w4 =>
      cases t4 with
      | cons w5 _ =>
        have h23:=BU.le_trans t2 r2
        exact .cons (w1.mono h23) (.cons (w2.mono h23) (.cons (w3.mono h23) (.cons (w5.mono r2) r4)))
    · exact⟨neg,xa,na,ka,xb,nb,kb,av,l2,capv,ac,l3.length,capc,cells,rfl,⟨neg,_,_,lm,ld,rfl,q1.old o23,q2.old o23,q3,q4⟩,(z2.old r3 (zU _)).mono r3.1,z3,z1.old r3,hra⟩
theorem RT{n:Nat}{cs:List Value}{y:DataW H×List MemPlace}(h:DataW.trod enc Tryz.prog w 0 (fun _=>true) held n 31 cs=some y)(hw:∀a,.slice (some a) 0 0∈cs→0<w.heap.size){ρ:BU}{s:AE}(hd:Fz Tryz.prog w ρ s):
  ∃ρ' s' ca cb,Fz Tryz.prog w ρ' s'∧ρ.le ρ'∧Aa s.next s s'∧AW ρ' (ca++cb) cs∧LA s' (.agg ca)∧LA s' (.agg cb):=by
 obtain⟨xs,m,_,rfl,h3,h4,h5⟩:=DataW.trod_array Tryz.underlying31 h
 rw[xp]at h3
 have e0:=h5 0 (by omega)
 have e1:=h5 1 (by omega)
 rw[xo,zW (show 0<xs.length by omega)]at e0
 rw[xo,zW (show 1<xs.length by omega)]at e1
 rw[A0b,A0d]at e0
 rw[A0S]at e1
 have hsplit:cs=cs.take 5++(cs.drop 5).take 5:=by
  have:(cs.drop 5).take 5=cs.drop 5:=A0V (by rw[A0C];omega)
  rw[this];exact(A0g 5 cs).symm
 obtain⟨ρ1,s1,us1,x1,g1,g2,g3,g4,g5⟩:=Nw e0 (fun a ha=>hw a (List.take_subset _ _ ha)) hd
 obtain⟨ρ2,s2,us2,x2,t1,t2,t3,t4,t5⟩:=Nw e1 (fun a ha=>hw a (List.drop_subset _ _ (List.take_subset _ _ ha))) g1
 refine⟨ρ2,s2,us1,us2,t1,BU.le_trans g2 t2,g3.trans (t3.mono g3.1),?_,LA.old g5 t3,t5⟩
 rw[hsplit]
 exact(g4.mono t2).append t4
end
section
variable{H:Type}{enc:TypeId×Value→H}{W:World}{base:Nat}
end
end
end Go.Proofs.YtjnkfbpadpmakaaGreatDoor.Am
set_option linter.unusedVariables false
set_option linter.unusedSimpArgs false
set_option maxRecDepth 100000
namespace Go.Proofs.YtjnkfbpadpmakaaGreatDoor.Am
open Go Go.Proofs
noncomputable section
def nP:List AA:=[
 A1p (.const (.bool false)) 2]
def nQ:List AA:=[
 A1s 22 (.var 0),
 A1s 22 (.var 1),
 A1x .neq 3 (.loc 1) (.loc 0) 4]
def wS:List AA:=[
 A1p (.const (.bool false)) 2]
def nR:List AA:=[
 A1p (.const (.int .i64 (0))) 3]
def cX:List AA:=[
 A1s 22 (.var 0),
 A1x .lss 3 (.var 3) (.loc 0) 5]
def nS:List AA:=[
 A1v 22 (.var 0) (.var 3),
 A1m 76 (.loc 0),
 A1v 22 (.var 1) (.var 3),
 A1m 76 (.loc 0),
 A1x .neq 76 (.loc 2) (.loc 0) 6]
def wT:List AA:=[
 A1p (.const (.bool false)) 2]
def nT:List AA:=[
 A1t (.var 3),
 ⟨none,.p2 (AN Tryz.prog .add 3),[(.loc 0),(.const (.int .i64 (1)))],.push,[]⟩,
 A1p (.loc 0) 3]
def RC:Ac:=(.seq (.seq (.ops cX) (.cond (.var 5)
 .skip
 (.exit 0))) (.seq (.block 1 (.seq (.ops nS) (.cond (.var 6)
 (.seq (.ops wT) .ret)
 .skip))) (.ops nT)))
def nU:List AA:=[
 A1p (.const (.bool true)) 2]
def yY:Ah:=⟨2,7,(.seq (.ops nP) (.seq (.seq (.ops nQ) (.cond (.var 4)
 (.seq (.ops wS) .ret)
 .skip)) (.seq (.seq (.ops nR) (.block 0 (.loop RC))) (.seq (.ops nU) .ret)))),[((.var 2),none)]⟩
def lU:List AA:=[
 A1q 26 (.var 0) 2,
 A1q 26 (.var 1) 3,
 A1p (.const (.bool false)) 4]
def lV:List AA:=[
 A1n 26 0 (.var 2),
 A1n 24 0 (.loc 0),
 A1m 4 (.loc 0),
 A1n 26 0 (.var 3),
 A1n 24 0 (.loc 0),
 A1m 4 (.loc 0),
 A1w .eql 4 (.loc 3) (.loc 0),
 ⟨(some ((.loc 0),true)),.p1 (fun x=>AC Tryz.prog 26 x 0),[.var 2],.push,[]⟩,
 ⟨(some ((.loc 1),true)),.p1 (fun x=>AC Tryz.prog 24 x 1),[.loc 0],.push,[]⟩,
 ⟨(some ((.loc 2),true)),.r1 (fun s a=>AB Tryz.prog s 22 a),[.loc 0],.push,[]⟩,
 ⟨(some ((.loc 3),true)),.p1 (fun x=>AC Tryz.prog 26 x 0),[.var 3],.push,[]⟩,
 ⟨(some ((.loc 4),true)),.p1 (fun x=>AC Tryz.prog 24 x 1),[.loc 0],.push,[]⟩,
 ⟨(some ((.loc 5),true)),.r1 (fun s a=>AB Tryz.prog s 22 a),[.loc 0],.push,[]⟩,
 ⟨(some ((.loc 6),true)),.call 40,[.loc 3,.loc 0],.push,[]⟩,
 ⟨none,.p Ru,[(.loc 7),(.loc 0),(.const (.bool false))],.push,[]⟩,
 ⟨(some ((.loc 0),true)),.p1 (fun x=>AC Tryz.prog 26 x 1),[.var 2],.push,[]⟩,
 ⟨(some ((.loc 1),true)),.r1 (fun s a=>AB Tryz.prog s 22 a),[.loc 0],.push,[]⟩,
 ⟨(some ((.loc 2),true)),.p1 (fun x=>AC Tryz.prog 26 x 1),[.var 3],.push,[]⟩,
 ⟨(some ((.loc 3),true)),.r1 (fun s a=>AB Tryz.prog s 22 a),[.loc 0],.push,[]⟩,
 ⟨(some ((.loc 4),true)),.call 40,[.loc 2,.loc 0],.push,[]⟩,
 ⟨none,.p Ru,[(.loc 5),(.loc 0),(.const (.bool false))],.push,[]⟩,
 A1p (.loc 0) 4]
def yK:Ah:=⟨2,5,(.seq (.ops lU) (.seq (.ops lV) .ret)),[((.var 4),none)]⟩
def wq:List AA:=[
 A1q 30 (.var 0) 2,
 A1q 30 (.var 1) 3,
 A1p (.const (.bool false)) 4]
def ws:List AA:=[
 A1n 30 0 (.var 2),
 A1m 26 (.loc 0),
 A1n 30 0 (.var 3),
 A1m 26 (.loc 0),
 A1u 12 [.loc 2,.loc 0],
 ⟨none,.p1 (Sy Tryz.prog Go.UnOp.not),[.loc 0],.push,[]⟩,
 ⟨(some ((.loc 0),false)),.p1 (fun x=>AC Tryz.prog 30 x 1),[.var 2],.push,[]⟩,
 ⟨(some ((.loc 1),false)),.r1 (fun s a=>AB Tryz.prog s 27 a),[.loc 0],.push,[]⟩,
 ⟨(some ((.loc 2),false)),.r (fun s l=>match l with | [x]=>Ay Tryz.prog s 27 x | _=>none),[.loc 0],.push,[]⟩,
 ⟨(some ((.loc 3),false)),.p1 (fun x=>AC Tryz.prog 30 x 1),[.var 3],.push,[]⟩,
 ⟨(some ((.loc 4),false)),.r1 (fun s a=>AB Tryz.prog s 27 a),[.loc 0],.push,[]⟩,
 ⟨(some ((.loc 5),false)),.r (fun s l=>match l with | [x]=>Ay Tryz.prog s 27 x | _=>none),[.loc 0],.push,[]⟩,
 ⟨(some ((.loc 6),false)),.p2 (AN Tryz.prog .neq 3),[.loc 3,.loc 0],.push,[]⟩,
 ⟨none,.p Ru,[(.loc 7),(.const (.bool true)),(.loc 0)],.push,[]⟩,
 ⟨(some ((.loc 0),false)),.p1 (fun x=>AC Tryz.prog 30 x 2),[.var 2],.push,[]⟩,
 ⟨(some ((.loc 1),false)),.r1 (fun s a=>AB Tryz.prog s 28 a),[.loc 0],.push,[]⟩,
 ⟨(some ((.loc 2),false)),.r (fun s l=>match l with | [x]=>Ay Tryz.prog s 28 x | _=>none),[.loc 0],.push,[]⟩,
 ⟨(some ((.loc 3),false)),.p1 (fun x=>AC Tryz.prog 30 x 2),[.var 3],.push,[]⟩,
 ⟨(some ((.loc 4),false)),.r1 (fun s a=>AB Tryz.prog s 28 a),[.loc 0],.push,[]⟩,
 ⟨(some ((.loc 5),false)),.r (fun s l=>match l with | [x]=>Ay Tryz.prog s 28 x | _=>none),[.loc 0],.push,[]⟩,
 ⟨(some ((.loc 6),false)),.p2 (AN Tryz.prog .neq 3),[.loc 3,.loc 0],.push,[]⟩,
 ⟨none,.p Ru,[(.loc 7),(.const (.bool true)),(.loc 0)],(.set 7),[]⟩]
def xh:List AA:=[
 A1p (.const (.bool false)) 4]
def wu:List AA:=[
 A1p (.const (.int .i64 (0))) 5]
def tG:List AA:=[
 A1n 30 1 (.var 2),
 A1m 27 (.loc 0),
 A1s 27 (.loc 0),
 A1x .lss 3 (.var 5) (.loc 0) 8]
def wv:List AA:=[
 A1n 30 1 (.var 2),
 A1m 27 (.loc 0),
 A1v 27 (.loc 0) (.var 5),
 A1m 3 (.loc 0),
 A1n 30 1 (.var 3),
 A1m 27 (.loc 0),
 A1v 27 (.loc 0) (.var 5),
 A1m 3 (.loc 0),
 A1x .neq 3 (.loc 4) (.loc 0) 9]
def xi:List AA:=[
 A1p (.const (.bool false)) 4]
def ww:List AA:=[
 A1t (.var 5),
 ⟨none,.p2 (AN Tryz.prog .add 3),[(.loc 0),(.const (.int .i64 (1)))],.push,[]⟩,
 A1p (.loc 0) 5]
def eU:Ac:=(.seq (.seq (.ops tG) (.cond (.var 8)
 .skip
 (.exit 0))) (.seq (.block 1 (.seq (.ops wv) (.cond (.var 9)
 (.seq (.ops xi) .ret)
 .skip))) (.ops ww)))
def wz:List AA:=[
 A1p (.const (.int .i64 (0))) 6]
def eV:List AA:=[
 A1n 30 2 (.var 2),
 A1m 28 (.loc 0),
 A1s 28 (.loc 0),
 A1x .lss 3 (.var 6) (.loc 0) 10]
def rv:List AA:=[
 A1n 30 2 (.var 2),
 A1m 28 (.loc 0),
 A1v 28 (.loc 0) (.var 6),
 A1m 26 (.loc 0),
 A1n 30 2 (.var 3),
 A1m 28 (.loc 0),
 A1v 28 (.loc 0) (.var 6),
 A1m 26 (.loc 0),
 A1u 12 [.loc 4,.loc 0],
 ⟨none,.p1 (Sy Tryz.prog Go.UnOp.not),[.loc 0],(.set 11),[]⟩]
def wt:List AA:=[
 A1p (.const (.bool false)) 4]
def sC:List AA:=[
 A1t (.var 6),
 ⟨none,.p2 (AN Tryz.prog .add 3),[(.loc 0),(.const (.int .i64 (1)))],.push,[]⟩,
 A1p (.loc 0) 6]
def RL:Ac:=(.seq (.seq (.ops eV) (.cond (.var 10)
 .skip
 (.exit 2))) (.seq (.block 3 (.seq (.ops rv) (.cond (.var 11)
 (.seq (.ops wt) .ret)
 .skip))) (.ops sC)))
def sD:List AA:=[
 A1p (.const (.bool true)) 4]
def c9:Ah:=⟨2,12,(.seq (.ops wq) (.seq (.seq (.ops ws) (.cond (.var 7)
 (.seq (.ops xh) .ret)
 .skip)) (.seq (.seq (.ops wu) (.block 0 (.loop eU))) (.seq (.seq (.ops wz) (.block 2 (.loop RL))) (.seq (.ops sD) .ret))))),[((.var 4),none)]⟩
theorem tZ:AL Tryz.prog 40=some yY:=by kernel_rfl
theorem tL:AL Tryz.prog 12=some yK:=by kernel_rfl
theorem xD:AL Tryz.prog 9=some c9:=by kernel_rfl
end
end Go.Proofs.YtjnkfbpadpmakaaGreatDoor.Am
set_option linter.unusedVariables false
set_option linter.unusedSimpArgs false
set_option maxRecDepth 16000
namespace Go.Proofs.YtjnkfbpadpmakaaGreatDoor.Am
open Go Go.Proofs
noncomputable section
theorem YZ(x:Bool)(a b:Option (Nat×Nat))(n m:Nat)(c d:Option Nat):Be Tryz.prog 30 (zipIdx [0] [.agg [.bool x,.slice a n c,.slice b m d]])=some (.agg [.bool x,.slice a n c,.slice b m d,.slice none 0 (some 0),.slice none 0 (some 0)]):=by kernel_rfl
theorem Lm(a:Option (Nat×Nat))(n:Nat)(c:Option Nat):Be Tryz.prog 24 (zipIdx [1] [.slice a n c])=some (.agg [.bool false,.slice a n c]):=by kernel_rfl
section
variable{E:CR}{s:AE}
end
end
end Go.Proofs.YtjnkfbpadpmakaaGreatDoor.Am
set_option linter.unusedVariables false
set_option linter.unusedSimpArgs false
set_option maxRecDepth 100000
namespace Go.Proofs.YtjnkfbpadpmakaaGreatDoor.Am
open Go Go.Proofs
noncomputable section
def aI:List AA:=[
 A1p (.const (.slice none 0 (some 0))) 1]
def PE:List AA:=[
 A1s 124 (.var 0),
 ⟨none,.p2 (AN Tryz.prog .gtr 3),[(.loc 0),(.const (.int .i64 (0)))],.push,[]⟩,
 ⟨(some ((.loc 0),true)),.p1 some,[.var 0],.push,[]⟩,
 ⟨(some ((.loc 1),true)),.p1 some,[.var 0],.push,[]⟩,
 ⟨(some ((.loc 2),true)),.r (fun s l=>match l with | [x]=>Ay Tryz.prog s 124 x | _=>none),[.loc 0],.push,[]⟩,
 ⟨(some ((.loc 3),true)),.p2 (AN Tryz.prog .sub 3),[(.loc 0),(.const (.int .i64 (1)))],.push,[]⟩,
 ⟨(some ((.loc 4),true)),.p2 (AJ Tryz.prog 124),[.loc 3,.loc 0],.push,[]⟩,
 ⟨(some ((.loc 5),true)),.r1 (fun s a=>AB Tryz.prog s 4 a),[.loc 0],.push,[]⟩,
 ⟨(some ((.loc 6),true)),.p1 (Sy Tryz.prog Go.UnOp.not),[.loc 0],.push,[]⟩,
 ⟨none,.p Ru,[(.loc 7),(.loc 0),(.const (.bool false))],(.set 2),[]⟩]
def aJ:List AA:=[
 A1t (.var 0),
 A1t (.var 0),
 A1s 124 (.loc 0),
 ⟨none,.p2 (AN Tryz.prog .sub 3),[(.loc 0),(.const (.int .i64 (1)))],.push,[]⟩,
 ⟨none,.r (At Tryz.prog 124 false true false),[.loc 3,.loc 0],.push,[]⟩,
 A1p (.loc 0) 0]
def Jt:Ac:=(.seq (.seq (.ops PE) (.cond (.var 2)
 .skip
 (.exit 0))) (.block 1 (.ops aJ)))
def aK:List AA:=[
 A1p (.var 0) 1]
def wC:Ah:=⟨1,3,(.seq (.ops aI) (.seq (.block 0 (.loop Jt)) (.seq (.ops aK) .ret))),[((.var 1),none)]⟩
def Yz:List AA:=[
 A1p (.const (.slice none 0 (some 0))) 1]
def Y0:List AA:=[
 A1p (.const (.slice none 0 (some 0))) 2]
def Y1:List AA:=[
 A1p (.const (.int .i64 (0))) 3]
def TQ:List AA:=[
 A1s 22 (.var 0),
 A1x .lss 3 (.var 3) (.loc 0) 5]
def Y2:List AA:=[
 A1p (.const (.int .i64 (0))) 4]
def TR:List AA:=[
 ⟨none,.p2 (AN Tryz.prog .lss 3),[(.var 4),(.const (.int .i64 (32)))],(.set 6),[]⟩]
def Y3:List AA:=[
 A1t (.var 2),
 A1v 22 (.var 0) (.var 3),
 A1m 76 (.loc 0),
 A1w .shr 76 (.loc 0) (.var 4),
 ⟨none,.p2 (AN Tryz.prog .and 76),[(.loc 0),(.const (.int .u32 (1)))],.push,[]⟩,
 ⟨none,.p2 (AN Tryz.prog .eql 76),[(.loc 0),(.const (.int .u32 (1)))],.push,[]⟩,
 ⟨none,.mk (fun l=>(Ad Tryz.prog 124 1 (zipIdx [0] l)).bind fun r=>some (r,.slice 1)),[.loc 0],.push,[]⟩,
 ⟨none,.e (fun s l=>Aj Tryz.prog s [124,124] l),[.loc 6,.loc 0],.push,[]⟩,
 A1p (.loc 0) 2]
def Y4:List AA:=[
 A1t (.var 4),
 ⟨none,.p2 (AN Tryz.prog .add 3),[(.loc 0),(.const (.int .i64 (1)))],.push,[]⟩,
 A1p (.loc 0) 4]
def Lr:Ac:=(.seq (.seq (.ops TR) (.cond (.var 6)
 .skip
 (.exit 2))) (.seq (.block 3 (.ops Y3)) (.ops Y4)))
def Y5:List AA:=[
 A1t (.var 3),
 ⟨none,.p2 (AN Tryz.prog .add 3),[(.loc 0),(.const (.int .i64 (1)))],.push,[]⟩,
 A1p (.loc 0) 3]
def I6:Ac:=(.seq (.seq (.ops TQ) (.cond (.var 5)
 .skip
 (.exit 0))) (.seq (.block 1 (.seq (.ops Y2) (.block 2 (.loop Lr)))) (.ops Y5)))
def VQ:List AA:=[
 A1u 138 [.var 2],
 A1p (.loc 0) 1]
def vP:Ah:=⟨1,7,(.seq (.ops Yz) (.seq (.ops Y0) (.seq (.seq (.ops Y1) (.block 0 (.loop I6))) (.seq (.ops VQ) .ret)))),[((.var 1),none)]⟩
def Yp:List AA:=[
 A1p (.const (.slice none 0 (some 0))) 1]
def Yq:List AA:=[
 A1t (.var 0),
 A1u 138 [.loc 0],
 A1p (.loc 0) 0]
def Yr:List AA:=[
 A1p (.const (.slice none 0 (some 0))) 2]
def Ys:List AA:=[
 A1p (.const (.int .i64 (0))) 3]
def Oy:List AA:=[
 A1s 124 (.var 0),
 A1x .lss 3 (.var 3) (.loc 0) 4]
def TL:List AA:=[
 ⟨none,.p2 (AN Tryz.prog .rem 3),[(.var 3),(.const (.int .i64 (32)))],.push,[]⟩,
 ⟨none,.p2 (AN Tryz.prog .eql 3),[(.loc 0),(.const (.int .i64 (0)))],(.set 5),[]⟩]
def Yt:List AA:=[
 A1t (.var 2),
 ⟨none,.mk (fun l=>(Ad Tryz.prog 22 1 (zipIdx [0] l)).bind fun r=>some (r,.slice 1)),[(.const (.int .u32 (0)))],.push,[]⟩,
 ⟨none,.e (fun s l=>Aj Tryz.prog s [22,22] l),[.loc 1,.loc 0],.push,[]⟩,
 A1p (.loc 0) 2]
def Oz:List AA:=[
 A1v 124 (.var 0) (.var 3),
 ⟨none,.r1 (fun s a=>AB Tryz.prog s 4 a),[.loc 0],(.set 6),[]⟩]
def TM:List AA:=[
 ⟨none,.p2 (AN Tryz.prog .quo 3),[(.var 3),(.const (.int .i64 (32)))],.push,[]⟩,
 ⟨none,.p2 (AN Tryz.prog .quo 3),[(.var 3),(.const (.int .i64 (32)))],.push,[]⟩,
 A1v 22 (.var 2) (.loc 0),
 A1m 76 (.loc 0),
 ⟨none,.p2 (AN Tryz.prog .rem 3),[(.var 3),(.const (.int .i64 (32)))],.push,[]⟩,
 ⟨none,.p2 (AN Tryz.prog .shl 76),[(.const (.int .u32 (1))),(.loc 0)],.push,[]⟩,
 A1w .or 76 (.loc 2) (.loc 0),
 A1v 22 (.var 2) (.loc 6),
 A1o 76 (.loc 0) (.loc 1)]
def PA:List AA:=[
 A1t (.var 3),
 ⟨none,.p2 (AN Tryz.prog .add 3),[(.loc 0),(.const (.int .i64 (1)))],.push,[]⟩,
 A1p (.loc 0) 3]
def Hk:Ac:=(.seq (.seq (.ops Oy) (.cond (.var 4)
 .skip
 (.exit 0))) (.seq (.block 1 (.seq (.seq (.ops TL) (.cond (.var 5)
 (.ops Yt)
 .skip)) (.seq (.ops Oz) (.cond (.var 6)
 (.ops TM)
 .skip)))) (.ops PA)))
def VG:List AA:=[
 A1p (.var 2) 1]
def vN:Ah:=⟨1,7,(.seq (.ops Yp) (.seq (.ops Yq) (.seq (.ops Yr) (.seq (.seq (.ops Ys) (.block 0 (.loop Hk))) (.seq (.ops VG) .ret))))),[((.var 1),none)]⟩
def Tf:List AA:=[
 A1p (.const (.bool false)) 2]
def Tg:List AA:=[
 A1s 124 (.var 0),
 A1w .lss 3 (.var 1) (.loc 0),
 ⟨(some ((.loc 0),true)),.p1 some,[.var 0],.push,[]⟩,
 ⟨(some ((.loc 1),true)),.p1 some,[.var 1],.push,[]⟩,
 ⟨(some ((.loc 2),true)),.p2 (AJ Tryz.prog 124),[.loc 1,.loc 0],.push,[]⟩,
 ⟨(some ((.loc 3),true)),.r1 (fun s a=>AB Tryz.prog s 4 a),[.loc 0],.push,[]⟩,
 ⟨none,.p Ru,[(.loc 4),(.loc 0),(.const (.bool false))],.push,[]⟩,
 A1p (.loc 0) 2]
def su:Ah:=⟨2,3,(.seq (.ops Tf) (.seq (.ops Tg) .ret)),[((.var 2),none)]⟩
def bD:List AA:=[
 A1p (.const (.slice none 0 (some 0))) 2]
def bE:List AA:=[
 A1p (.const (.slice none 0 (some 0))) 3]
def bF:List AA:=[
 A1p (.const (.bool false)) 4]
def bG:List AA:=[
 A1p (.const (.int .i64 (0))) 5]
def Ju:List AA:=[
 A1s 124 (.var 0),
 A1w .lss 3 (.var 5) (.loc 0),
 ⟨(some ((.loc 0),false)),.p1 some,[.var 5],.push,[]⟩,
 ⟨(some ((.loc 1),false)),.p1 some,[.var 1],.push,[]⟩,
 ⟨(some ((.loc 2),false)),.r (fun s l=>match l with | [x]=>Ay Tryz.prog s 124 x | _=>none),[.loc 0],.push,[]⟩,
 ⟨(some ((.loc 3),false)),.p2 (AN Tryz.prog .lss 3),[.loc 2,.loc 0],.push,[]⟩,
 ⟨none,.p Ru,[(.loc 4),(.const (.bool true)),(.loc 0)],.push,[]⟩,
 ⟨(some ((.loc 0),false)),.p1 some,[.var 4],.push,[]⟩,
 ⟨none,.p Ru,[(.loc 1),(.const (.bool true)),(.loc 0)],(.set 8),[]⟩]
def GY:List AA:=[
 A1u 152 [.var 0,.var 5],
 A1u 152 [.var 1,.var 5],
 A1p (.loc 1) 6,
 A1p (.loc 0) 7]
def GZ:List AA:=[
 A1t (.var 3),
 A1w .neq 4 (.var 6) (.var 7),
 A1w .neq 4 (.loc 0) (.var 4),
 ⟨none,.mk (fun l=>(Ad Tryz.prog 124 1 (zipIdx [0] l)).bind fun r=>some (r,.slice 1)),[.loc 0],.push,[]⟩,
 ⟨none,.e (fun s l=>Aj Tryz.prog s [124,124] l),[.loc 3,.loc 0],.push,[]⟩,
 A1p (.loc 0) 3]
def Ga:List AA:=[
 ⟨(some ((.var 6),true)),.p1 some,[.var 7],.push,[]⟩,
 ⟨none,.p Ru,[(.var 6),(.loc 0),(.const (.bool false))],.push,[]⟩,
 ⟨(some ((.loc 0),false)),.p1 some,[.var 4],.push,[]⟩,
 ⟨(some ((.loc 1),false)),.p1 some,[.loc 0],.push,[]⟩,
 ⟨(some ((.loc 0),true)),.p1 some,[.var 6],.push,[]⟩,
 ⟨(some ((.loc 1),true)),.p1 some,[.loc 0],.push,[]⟩,
 ⟨(some ((.loc 0),false)),.p1 some,[.var 7],.push,[]⟩,
 ⟨(some ((.loc 3),true)),.p Ru,[(.loc 1),(.const (.bool true)),(.loc 0)],.push,[]⟩,
 ⟨(some ((.loc 6),false)),.p Ru,[(.loc 4),(.loc 0),(.const (.bool false))],.push,[]⟩,
 ⟨none,.p Ru,[(.loc 7),(.const (.bool true)),(.loc 0)],.push,[]⟩,
 A1p (.loc 0) 4]
def Gb:List AA:=[
 A1t (.var 5),
 ⟨none,.p2 (AN Tryz.prog .add 3),[(.loc 0),(.const (.int .i64 (1)))],.push,[]⟩,
 A1p (.loc 0) 5]
def GX:Ac:=(.seq (.seq (.ops Ju) (.cond (.var 8)
 .skip
 (.exit 0))) (.seq (.block 1 (.seq (.ops GY) (.seq (.ops GZ) (.ops Ga)))) (.ops Gb)))
def VW:List AA:=[
 A1p (.var 3) 2]
def wG:Ah:=⟨2,9,(.seq (.ops bD) (.seq (.ops bE) (.seq (.ops bF) (.seq (.seq (.ops bG) (.block 0 (.loop GX))) (.seq (.ops VW) .ret))))),[((.var 2),none)]⟩
def aL:List AA:=[
 A1p (.const (.bool false)) 2]
def aM:List AA:=[
 A1t (.var 0),
 A1u 138 [.loc 0],
 A1p (.loc 0) 0]
def aN:List AA:=[
 A1t (.var 1),
 A1u 138 [.loc 0],
 A1p (.loc 0) 1]
def Ta:List AA:=[
 A1s 124 (.var 0),
 A1s 124 (.var 1),
 A1x .neq 3 (.loc 1) (.loc 0) 4]
def aO:List AA:=[
 A1s 124 (.var 0),
 A1s 124 (.var 1),
 A1w .lss 3 (.loc 1) (.loc 0),
 A1p (.loc 0) 2]
def aP:List AA:=[
 A1s 124 (.var 0),
 ⟨none,.p2 (AN Tryz.prog .sub 3),[(.loc 0),(.const (.int .i64 (1)))],.push,[]⟩,
 A1p (.loc 0) 3]
def PF:List AA:=[
 ⟨none,.p2 (AN Tryz.prog .geq 3),[(.var 3),(.const (.int .i64 (0)))],(.set 5),[]⟩]
def Tb:List AA:=[
 A1v 124 (.var 0) (.var 3),
 A1m 4 (.loc 0),
 A1v 124 (.var 1) (.var 3),
 A1m 4 (.loc 0),
 A1x .neq 4 (.loc 2) (.loc 0) 6]
def aQ:List AA:=[
 A1v 124 (.var 1) (.var 3),
 A1m 4 (.loc 0),
 A1p (.loc 0) 2]
def aR:List AA:=[
 A1t (.var 3),
 ⟨none,.p2 (AN Tryz.prog .sub 3),[(.loc 0),(.const (.int .i64 (1)))],.push,[]⟩,
 A1p (.loc 0) 3]
def Hl:Ac:=(.seq (.seq (.ops PF) (.cond (.var 5)
 .skip
 (.exit 0))) (.seq (.block 1 (.seq (.ops Tb) (.cond (.var 6)
 (.seq (.ops aQ) .ret)
 .skip))) (.ops aR)))
def VT:List AA:=[
 A1p (.const (.bool false)) 2]
def wD:Ah:=⟨2,7,(.seq (.ops aL) (.seq (.ops aM) (.seq (.ops aN) (.seq (.seq (.ops Ta) (.cond (.var 4)
 (.seq (.ops aO) .ret)
 .skip)) (.seq (.seq (.ops aP) (.block 0 (.loop Hl))) (.seq (.ops VT) .ret)))))),[((.var 2),none)]⟩
def aZ:List AA:=[
 A1p (.const (.slice none 0 (some 0))) 2]
def ae:List AA:=[
 A1p (.const (.slice none 0 (some 0))) 3]
def af:List AA:=[
 A1p (.const (.bool false)) 4]
def ah:List AA:=[
 A1p (.const (.int .i64 (0))) 5]
def Tc:List AA:=[
 A1s 124 (.var 0),
 A1x .lss 3 (.var 5) (.loc 0) 8]
def ai:List AA:=[
 A1v 124 (.var 0) (.var 5),
 A1m 4 (.loc 0),
 ⟨none,.call 152,[.var 1,.var 5],.push,[⟨none,.r1 (fun s a=>AB Tryz.prog s 4 a),[.loc 2],(.loc 1)⟩]⟩,
 A1p (.loc 1) 6,
 A1p (.loc 0) 7]
def aj:List AA:=[
 A1t (.var 3),
 A1w .neq 4 (.var 6) (.var 7),
 A1w .neq 4 (.loc 0) (.var 4),
 ⟨none,.mk (fun l=>(Ad Tryz.prog 124 1 (zipIdx [0] l)).bind fun r=>some (r,.slice 1)),[.loc 0],.push,[]⟩,
 ⟨none,.e (fun s l=>Aj Tryz.prog s [124,124] l),[.loc 3,.loc 0],.push,[]⟩,
 A1p (.loc 0) 3]
def ak:List AA:=[
 ⟨none,.p1 (Sy Tryz.prog Go.UnOp.not),[.var 6],.push,[]⟩,
 ⟨(some ((.loc 0),true)),.p1 some,[.var 7],.push,[]⟩,
 ⟨(some ((.loc 1),true)),.p1 some,[.loc 0],.push,[]⟩,
 ⟨(some ((.loc 0),false)),.p1 some,[.var 4],.push,[]⟩,
 ⟨(some ((.loc 3),true)),.p Ru,[(.loc 1),(.const (.bool true)),(.loc 0)],.push,[]⟩,
 ⟨none,.p Ru,[(.loc 4),(.loc 0),(.const (.bool false))],.push,[]⟩,
 ⟨(some ((.loc 0),false)),.p1 some,[.var 6],.push,[]⟩,
 ⟨(some ((.loc 1),false)),.p1 some,[.loc 0],.push,[]⟩,
 ⟨(some ((.loc 0),true)),.p1 some,[.var 7],.push,[]⟩,
 ⟨(some ((.loc 3),false)),.p Ru,[(.loc 1),(.loc 0),(.const (.bool false))],.push,[]⟩,
 ⟨(some ((.loc 4),false)),.p1 some,[.loc 0],.push,[]⟩,
 ⟨(some ((.loc 0),true)),.p1 some,[.var 4],.push,[]⟩,
 ⟨(some ((.loc 6),false)),.p Ru,[(.loc 1),(.loc 0),(.const (.bool false))],.push,[]⟩,
 ⟨none,.p Ru,[(.loc 7),(.const (.bool true)),(.loc 0)],.push,[]⟩,
 A1p (.loc 0) 4]
def ao:List AA:=[
 A1t (.var 5),
 ⟨none,.p2 (AN Tryz.prog .add 3),[(.loc 0),(.const (.int .i64 (1)))],.push,[]⟩,
 A1p (.loc 0) 5]
def Lu:Ac:=(.seq (.seq (.ops Tc) (.cond (.var 8)
 .skip
 (.exit 0))) (.seq (.block 1 (.seq (.ops ai) (.seq (.ops aj) (.ops ak)))) (.ops ao)))
def VV:List AA:=[
 A1u 138 [.var 3],
 A1p (.loc 0) 2]
def wE:Ah:=⟨2,9,(.seq (.ops aZ) (.seq (.ops ae) (.seq (.ops af) (.seq (.seq (.ops ah) (.block 0 (.loop Lu))) (.seq (.ops VV) .ret))))),[((.var 2),none)]⟩
def Yu:List AA:=[
 A1p (.const (.slice none 0 (some 0))) 2]
def Yv:List AA:=[
 A1s 124 (.var 0),
 A1s 124 (.var 1),
 A1w .add 3 (.loc 1) (.loc 0),
 ⟨none,.mk (Xy (Bb Tryz.prog 27)),[.loc 0,.loc 0],.push,[]⟩,
 A1p (.loc 0) 3]
def Yw:List AA:=[
 A1p (.const (.int .i64 (0))) 4]
def TN:List AA:=[
 A1s 124 (.var 0),
 A1x .lss 3 (.var 4) (.loc 0) 9]
def Yx:List AA:=[
 A1p (.const (.int .i64 (0))) 5]
def Jr:List AA:=[
 A1v 124 (.var 0) (.var 4),
 A1m 4 (.loc 0),
 ⟨(some ((.loc 0),true)),.p1 some,[.var 5],.push,[]⟩,
 ⟨(some ((.loc 1),true)),.p1 some,[.var 1],.push,[]⟩,
 ⟨(some ((.loc 2),true)),.r (fun s l=>match l with | [x]=>Ay Tryz.prog s 124 x | _=>none),[.loc 0],.push,[]⟩,
 ⟨(some ((.loc 3),true)),.p2 (AN Tryz.prog .lss 3),[.loc 2,.loc 0],.push,[]⟩,
 ⟨none,.p Ru,[(.loc 4),(.loc 0),(.const (.bool false))],(.set 10),[]⟩]
def TO:List AA:=[
 A1v 124 (.var 1) (.var 5),
 ⟨none,.r1 (fun s a=>AB Tryz.prog s 4 a),[.loc 0],(.set 11),[]⟩]
def Yy:List AA:=[
 A1w .add 3 (.var 4) (.var 5),
 A1v 27 (.var 3) (.loc 0),
 A1m 3 (.loc 0),
 ⟨none,.p2 (AN Tryz.prog .add 3),[(.loc 0),(.const (.int .i64 (1)))],.push,[]⟩,
 A1v 27 (.var 3) (.loc 3),
 A1o 3 (.loc 0) (.loc 1)]
def TP:List AA:=[
 A1t (.var 5),
 ⟨none,.p2 (AN Tryz.prog .add 3),[(.loc 0),(.const (.int .i64 (1)))],.push,[]⟩,
 A1p (.loc 0) 5]
def HD:Ac:=(.seq (.seq (.ops Jr) (.cond (.var 10)
 .skip
 (.exit 2))) (.seq (.block 3 (.seq (.ops TO) (.cond (.var 11)
 (.ops Yy)
 .skip))) (.ops TP)))
def VH:List AA:=[
 A1t (.var 4),
 ⟨none,.p2 (AN Tryz.prog .add 3),[(.loc 0),(.const (.int .i64 (1)))],.push,[]⟩,
 A1p (.loc 0) 4]
def I4:Ac:=(.seq (.seq (.ops TN) (.cond (.var 9)
 .skip
 (.exit 0))) (.seq (.block 1 (.seq (.ops Yx) (.block 2 (.loop HD)))) (.ops VH)))
def VI:List AA:=[
 A1p (.const (.slice none 0 (some 0))) 6]
def VJ:List AA:=[
 A1p (.const (.int .i64 (0))) 7]
def VK:List AA:=[
 A1p (.const (.int .i64 (0))) 8]
def PB:List AA:=[
 A1s 27 (.var 3),
 A1x .lss 3 (.var 8) (.loc 0) 12]
def VL:List AA:=[
 A1t (.var 7),
 A1v 27 (.var 3) (.var 8),
 A1m 3 (.loc 0),
 A1w .add 3 (.loc 2) (.loc 0),
 A1p (.loc 0) 7]
def VM:List AA:=[
 A1t (.var 6),
 ⟨none,.p2 (AN Tryz.prog .rem 3),[(.var 7),(.const (.int .i64 (2)))],.push,[]⟩,
 ⟨none,.p2 (AN Tryz.prog .eql 3),[(.loc 0),(.const (.int .i64 (1)))],.push,[]⟩,
 ⟨none,.mk (fun l=>(Ad Tryz.prog 124 1 (zipIdx [0] l)).bind fun r=>some (r,.slice 1)),[.loc 0],.push,[]⟩,
 ⟨none,.e (fun s l=>Aj Tryz.prog s [124,124] l),[.loc 3,.loc 0],.push,[]⟩,
 A1p (.loc 0) 6]
def VN:List AA:=[
 A1t (.var 7),
 ⟨none,.p2 (AN Tryz.prog .quo 3),[(.loc 0),(.const (.int .i64 (2)))],.push,[]⟩,
 A1p (.loc 0) 7]
def VO:List AA:=[
 A1t (.var 8),
 ⟨none,.p2 (AN Tryz.prog .add 3),[(.loc 0),(.const (.int .i64 (1)))],.push,[]⟩,
 A1p (.loc 0) 8]
def I5:Ac:=(.seq (.seq (.ops PB) (.cond (.var 12)
 .skip
 (.exit 4))) (.seq (.block 5 (.seq (.ops VL) (.seq (.ops VM) (.ops VN)))) (.ops VO)))
def VP:List AA:=[
 A1u 138 [.var 6],
 A1p (.loc 0) 2]
def vO:Ah:=⟨2,13,(.seq (.ops Yu) (.seq (.ops Yv) (.seq (.seq (.ops Yw) (.block 0 (.loop I4))) (.seq (.ops VI) (.seq (.ops VJ) (.seq (.seq (.ops VK) (.block 4 (.loop I5))) (.seq (.ops VP) .ret))))))),[((.var 2),none)]⟩
def Y6:List AA:=[
 A1p (.const (.slice none 0 (some 0))) 2,
 A1p (.const (.slice none 0 (some 0))) 3]
def Y7:List AA:=[
 A1s 124 (.var 0),
 ⟨none,.mk (Xy (Bb Tryz.prog 124)),[.loc 0,.loc 0],.push,[]⟩,
 A1p (.loc 0) 4]
def Y8:List AA:=[
 A1p (.const (.slice none 0 (some 0))) 5]
def Y9:List AA:=[
 A1s 124 (.var 0),
 ⟨none,.p2 (AN Tryz.prog .sub 3),[(.loc 0),(.const (.int .i64 (1)))],.push,[]⟩,
 A1p (.loc 0) 6]
def TS:List AA:=[
 ⟨none,.p2 (AN Tryz.prog .geq 3),[(.var 6),(.const (.int .i64 (0)))],(.set 7),[]⟩]
def ZA:List AA:=[
 A1v 124 (.var 0) (.var 6),
 A1m 4 (.loc 0),
 ⟨none,.mk (fun l=>(Ad Tryz.prog 124 1 (zipIdx [0] l)).bind fun r=>some (r,.slice 1)),[.loc 0],.push,[]⟩,
 A1t (.var 5),
 ⟨none,.e (fun s l=>Aj Tryz.prog s [124,124] l),[.loc 1,.loc 0],.push,[]⟩,
 A1u 138 [.loc 0],
 A1p (.loc 0) 5]
def ZB:List AA:=[
 A1u 139 [.var 5,.var 1],
 ⟨none,.p1 (Sy Tryz.prog Go.UnOp.not),[.loc 0],(.set 8),[]⟩]
def ZC:List AA:=[
 A1t (.var 5),
 A1u 140 [.loc 0,.var 1],
 A1p (.loc 0) 5]
def ZD:List AA:=[
 A1v 124 (.var 4) (.var 6),
 ⟨none,.e (fun s=>Xy (fun a x=>Za (AO Tryz.prog s 4 a x))),[(.loc 0),(.const (.bool true))],.push,[]⟩]
def TT:List AA:=[
 A1t (.var 6),
 ⟨none,.p2 (AN Tryz.prog .sub 3),[(.loc 0),(.const (.int .i64 (1)))],.push,[]⟩,
 A1p (.loc 0) 6]
def I7:Ac:=(.seq (.seq (.ops TS) (.cond (.var 7)
 .skip
 (.exit 0))) (.seq (.block 1 (.seq (.ops ZA) (.seq (.ops ZB) (.cond (.var 8)
 (.seq (.ops ZC) (.ops ZD))
 .skip)))) (.ops TT)))
def VR:List AA:=[
 A1u 138 [.var 4],
 A1p (.loc 0) 2,
 A1p (.var 5) 3]
def vQ:Ah:=⟨2,9,(.seq (.ops Y6) (.seq (.ops Y7) (.seq (.ops Y8) (.seq (.seq (.ops Y9) (.block 0 (.loop I7))) (.seq (.ops VR) .ret))))),[((.var 2),none),((.var 3),none)]⟩
def Z2:List AA:=[
 A1p (.const (.slice none 0 (some 0))) 1]
def Z3:List AA:=[
 A1u 104 [.var 0],
 A1u 102 [.loc 0],
 A1p (.loc 0) 1]
def vt:Ah:=⟨1,2,(.seq (.ops Z2) (.seq (.ops Z3) .ret)),[((.var 1),none)]⟩
def Zr:List AA:=[
 A1p (.const (.slice none 0 (some 0))) 2]
def Zs:List AA:=[
 A1u 104 [.var 0],
 A1u 104 [.var 1],
 A1u 145 [.loc 1,.loc 0],
 A1u 102 [.loc 0],
 A1p (.loc 0) 2]
def vh:Ah:=⟨2,3,(.seq (.ops Zr) (.seq (.ops Zs) .ret)),[((.var 2),none)]⟩
def Zz:List AA:=[
 A1p (.const (.slice none 0 (some 0))) 2,
 A1p (.const (.bool false)) 3]
def Z0:List AA:=[
 A1u 104 [.var 0],
 A1u 104 [.var 1],
 ⟨none,.call 139,[.loc 1,.loc 0],(.set 4),[]⟩]
def sn:List AA:=[
 A1p (.const (.slice none 0 (some 0))) 2,
 A1p (.const (.bool false)) 3]
def Z1:List AA:=[
 A1u 104 [.var 0],
 A1u 104 [.var 1],
 A1u 140 [.loc 1,.loc 0],
 A1u 102 [.loc 0],
 A1p (.loc 0) 2,
 A1p (.const (.bool true)) 3]
def vk:Ah:=⟨2,5,(.seq (.ops Zz) (.seq (.seq (.ops Z0) (.cond (.var 4)
 (.seq (.ops sn) .ret)
 .skip)) (.seq (.ops Z1) .ret))),[((.var 2),none),((.var 3),none)]⟩
def ow:List AA:=[
 A1p (.const (.slice none 0 (some 0))) 2]
def oz:List AA:=[
 A1u 104 [.var 0],
 A1u 104 [.var 1],
 A1u 103 [.loc 1,.loc 0],
 A1u 102 [.loc 0],
 A1p (.loc 0) 2]
def yr:Ah:=⟨2,3,(.seq (.ops ow) (.seq (.ops oz) .ret)),[((.var 2),none)]⟩
def Zn:List AA:=[
 A1p (.const (.slice none 0 (some 0))) 2,
 A1p (.const (.slice none 0 (some 0))) 3,
 A1p (.const (.int .i64 (0))) 4]
def Zo:List AA:=[
 A1u 104 [.var 1],
 A1s 124 (.loc 0),
 ⟨none,.p2 (AN Tryz.prog .eql 3),[(.loc 0),(.const (.int .i64 (0)))],(.set 7),[]⟩]
def sk:List AA:=[
 A1p (.const (.slice none 0 (some 0))) 2,
 A1p (.const (.slice none 0 (some 0))) 3,
 A1p (.const (.int .i64 (3))) 4]
def Zp:List AA:=[
 A1u 104 [.var 0],
 A1u 104 [.var 1],
 A1u 105 [.loc 1,.loc 0],
 ⟨none,.p1 (fun x=>Zb x 0),[.loc 0],.push,[]⟩,
 ⟨none,.p1 (fun x=>Zb x 1),[.loc 1],.push,[]⟩,
 A1p (.loc 1) 5,
 A1p (.loc 0) 6]
def Zq:List AA:=[
 A1u 102 [.var 5],
 A1u 102 [.var 6],
 A1p (.loc 1) 2,
 A1p (.loc 0) 3,
 A1p (.const (.int .i64 (0))) 4]
def vg:Ah:=⟨2,8,(.seq (.ops Zn) (.seq (.seq (.ops Zo) (.cond (.var 7)
 (.seq (.ops sk) .ret)
 .skip)) (.seq (.ops Zp) (.seq (.ops Zq) .ret)))),[((.var 2),none),((.var 3),none),((.var 4),none)]⟩
def pC:List AA:=[
 A1p (.const (.slice none 0 (some 0))) 2]
def pD:List AA:=[
 A1u 104 [.var 0],
 A1u 104 [.var 1],
 A1p (.loc 1) 3,
 A1p (.loc 0) 4]
def df:List AA:=[
 A1s 124 (.var 4),
 ⟨none,.p2 (AN Tryz.prog .gtr 3),[(.loc 0),(.const (.int .i64 (0)))],(.set 6),[]⟩]
def pE:List AA:=[
 A1u 105 [.var 3,.var 4],
 ⟨none,.p1 (fun x=>Zb x 0),[.loc 0],.push,[]⟩,
 ⟨none,.p1 (fun x=>Zb x 1),[.loc 1],.push,[]⟩,
 A1t (.loc 1),
 A1p (.loc 1) 5]
def pF:List AA:=[
 A1p (.var 4) 3]
def pG:List AA:=[
 A1p (.var 5) 4]
def RE:Ac:=(.seq (.seq (.ops df) (.cond (.var 6)
 .skip
 (.exit 0))) (.block 1 (.seq (.ops pE) (.seq (.ops pF) (.ops pG)))))
def pH:List AA:=[
 A1u 102 [.var 3],
 A1p (.loc 0) 2]
def yt:Ah:=⟨2,7,(.seq (.ops pC) (.seq (.ops pD) (.seq (.block 0 (.loop RE)) (.seq (.ops pH) .ret)))),[((.var 2),none)]⟩
def Zt:List AA:=[
 A1p (.const (.int .i64 (0))) 2]
def Zu:List AA:=[
 A1u 104 [.var 0],
 A1u 104 [.var 1],
 ⟨none,.call 139,[.loc 1,.loc 0],(.set 3),[]⟩]
def Zv:List AA:=[
 A1p (.const (.int .i64 (-1))) 2]
def Zw:List AA:=[
 A1u 104 [.var 1],
 A1u 104 [.var 0],
 ⟨none,.call 139,[.loc 1,.loc 0],(.set 4),[]⟩]
def Zx:List AA:=[
 A1p (.const (.int .i64 (1))) 2]
def Zy:List AA:=[
 A1p (.const (.int .i64 (0))) 2]
def vj:Ah:=⟨2,5,(.seq (.ops Zt) (.seq (.seq (.ops Zu) (.cond (.var 3)
 (.seq (.ops Zv) .ret)
 .skip)) (.seq (.seq (.ops Zw) (.cond (.var 4)
 (.seq (.ops Zx) .ret)
 .skip)) (.seq (.ops Zy) .ret)))),[((.var 2),none)]⟩
theorem jb:AL Tryz.prog 138=some wC:=by kernel_rfl
theorem jH:AL Tryz.prog 104=some vP:=by kernel_rfl
theorem jF:AL Tryz.prog 102=some vN:=by kernel_rfl
theorem jg:AL Tryz.prog 152=some su:=by kernel_rfl
theorem jf:AL Tryz.prog 145=some wG:=by kernel_rfl
theorem jc:AL Tryz.prog 139=some wD:=by kernel_rfl
theorem jd:AL Tryz.prog 140=some wE:=by kernel_rfl
theorem jG:AL Tryz.prog 103=some vO:=by kernel_rfl
theorem jI:AL Tryz.prog 105=some vQ:=by kernel_rfl
theorem jY:AL Tryz.prog 127=some vt:=by kernel_rfl
theorem jV:AL Tryz.prog 124=some vh:=by kernel_rfl
theorem jX:AL Tryz.prog 126=some vk:=by kernel_rfl
theorem tu:AL Tryz.prog 56=some yr:=by kernel_rfl
theorem jU:AL Tryz.prog 123=some vg:=by kernel_rfl
theorem tv:AL Tryz.prog 57=some yt:=by kernel_rfl
theorem jW:AL Tryz.prog 125=some vj:=by kernel_rfl
end
end Go.Proofs.YtjnkfbpadpmakaaGreatDoor.Am
set_option linter.unusedVariables false
set_option linter.unusedSimpArgs false
namespace Go.Proofs.YtjnkfbpadpmakaaGreatDoor.Am
open Go
noncomputable section
def bv:List Bool→Nat
 | []=>0
 | b::l=>b.toNat+2 * bv l
def Fc:List Bool→List Bool
 | []=>[]
 | b::l=>if b=false∧Fc l=[]then []else b::Fc l
def Av(n:Nat):List Bool:=if h:n=0 then []else decide (n % 2=1)::Av (n / 2)
termination_by n
decreasing_by exact A1D (by omega) (by decide)
theorem CD:Av 0=[]:=by rw[Av];rfl
theorem FF{n:Nat}(h:n≠0):Av n=decide (n % 2=1)::Av (n / 2):=by rw[Av,dif_neg h]
theorem I2{n:Nat}(h:n≠0):Av n≠[]:=by rw[FF h];exact fun e=>by cases e
theorem KX(n:Nat):(decide (n % 2=1)).toNat=n % 2:=by
 by_cases h:n % 2=1
 ·rw[decide_eq_true h,h];rfl
 ·rw[decide_eq_false h,show n % 2=0 by omega];rfl
theorem BK(n:Nat):bv (Av n)=n:=by
 induction n using Nat.strongRecOn with
 | _ n ih =>
  by_cases h:n=0
  ·subst h;rw[CD];rfl
  ·rw[FF h]
   show(decide (n % 2=1)).toNat+2 * bv (Av (n / 2))=n
   rw[KX,ih (n / 2) (A1D (by omega) (by decide))]
   omega
theorem LE(b:Bool):b.toNat<2:=by cases b<;>decide
theorem Ej:∀l:List Bool,bv l<2 ^ l.length
 | []=>by decide
 | b::l=>by
  have h1:=Ej l
  have h2:=LE b
  show b.toNat+2 * bv l<2 ^ (l.length+1)
  rw[zy];omega
theorem IA        : ∀ l : List Bool, Fc    l = Av    (bv l)
  | []=>by rw[Fc,bv,CD]
  | b::l=>by
    have ih:=IA l
    have hb:=LE b
    show(if b=false∧Fc l=[]then []else b::Fc l)=Av (b.toNat+2 * bv l)
    by_cases h0:bv l=0
    · rw[ih,h0,CD]
      cases b with
      | false=>rw[if_pos ⟨rfl,rfl⟩];exact CD.symm
      | true =>
        rw[if_neg (fun h=>by cases h.1)]
        show [true]=Av 1
        rw[FF (by decide)]
        show [true]=decide (1 % 2=1)::Av (1 / 2)
        rw[show 1 / 2=0 from rfl,CD];rfl
    · have hne:Fc l≠[]:=by rw[ih];exact I2 h0
      rw[if_neg (fun h=>hne h.2),FF (by omega),ih]
      congr 1
      · cases b with
        | false=>show false=decide ((0+2 * bv l) % 2=1);rw[decide_eq_false (by omega)]
        | true=>show true=decide ((1+2 * bv l) % 2=1);rw[decide_eq_true (by omega)]
      · congr 1;omega
theorem Jq:∀a b:List Bool,bv (a++b)=bv a+2 ^ a.length * bv b
 | [],b=>by show bv b=0+1 * bv b;omega
 | x::a,b=>by
  show x.toNat+2 * bv (a++b)=x.toNat+2 * bv a+2 ^ (a.length+1) * bv b
  rw[Jq a b,zy,zp,zt (2 ^ a.length) 2,zu];omega
theorem GV(a:List Bool)(b:Bool):bv (a++[b])=bv a+2 ^ a.length * b.toNat:=by rw[Jq];rfl
theorem FR{n k:Nat}(h:n<2 ^ k):(Av n).length≤k:=by
  induction k generalizing n with
  | zero => have : n = 0 := by simpa using h
            rw[this,CD];exact zU _
  | succ k ih =>
    by_cases h0:n=0
    · rw[h0,CD];exact ze _
    · rw[FF h0,A0G]
      have:=ih (n:=n / 2) (by rw[zy]at h;omega)
      omega
theorem Ut(l:List Bool):Fc (l++[false])=Fc l:=by
 rw[IA,IA,GV];rfl
theorem OX:∀l:List Bool,Fc (l++[true])=l++[true]
 | []=>rfl
 | b::l=>by
  show(if b=false∧Fc (l++[true])=[]then []else b::Fc (l++[true]))=b::(l++[true])
  rw[OX l,if_neg (fun h=>by cases l<;>cases h.2)]
theorem W4{n:Nat}(h:n≠0):∃m,Av n=m++[true]:=by
 induction n using Nat.strongRecOn with
 | _ n ih =>
  rw[FF h]
  by_cases h2:n / 2=0
  ·have:n=1:=by omega
   subst this
   refine⟨[],?_⟩
   rw[show 1 / 2=0 from rfl,CD];rfl
  ·obtain⟨m,e⟩:=ih (n / 2) (A1D (by omega) (by decide)) h2
   rw[e];exact⟨_::m,rfl⟩
theorem Ot{n:Nat}(h:n≠0):2 ^ ((Av n).length - 1)≤n:=by
 obtain⟨m,e⟩:=W4 h
 have:=BK n
 rw[e,GV]at this
 rw[e,zg,show [true].length=1 from rfl,A0r]
 have h1:2 ^ m.length * (true).toNat=2 ^ m.length:=by show _ * 1=_;omega
 omega
end
end Go.Proofs.YtjnkfbpadpmakaaGreatDoor.Am
set_option linter.unusedVariables false
set_option linter.unusedSimpArgs false
set_option maxRecDepth 16000
namespace Go.Proofs.YtjnkfbpadpmakaaGreatDoor.Am
open Go Go.Proofs
noncomputable section
def G0(l:List Bool):List AV:=l.map AV.bool
theorem Ow(l:List Bool):(G0 l).length=l.length:=by simp[G0]
theorem LF{l:List Bool}{k:Nat}{x:Bool}(h:l[k]? = some x):(G0 l)[k]? = some (.bool x):=by simp[G0,h]
def Df(s:AE)(v:AV)(l:List Bool):Prop:=∃a cap,v=.slice a l.length cap∧EB 1 s a cap l.length∧AS s.next s a (G0 l)
theorem Df.old{s s':AE}{v:AV}{l:List Bool}(h:Df s v l)(o:Aa s.next s s'):Df s' v l:=by
 obtain⟨a,cap,h1,h2,h3⟩:=h
 exact⟨a,cap,h1,h2.old o,(h3.old o (zU _)).mono o.1⟩
theorem Df.keep{s s':AE}{v:AV}{l:List Bool}(h:Df s v l)(hn:s.next≤s'.next)(hf:∀j,B6 v=some j→j<s.next→s'.heap.get j=s.heap.get j):Df s' v l:=by
  obtain⟨a,cap,rfl,h2,h3⟩:=h
  refine⟨a,cap,rfl,?_,fun k u hu=>?_⟩
  · rcases h2 with h2 | ⟨g1, i, o, r, rfl, g3, g4, g5⟩
    · exact .inl h2
    · exact .inr ⟨g1,i,o,r,rfl,by omega,by rw[hf i rfl g3];exact g4,g5⟩
  · obtain⟨i,o,rfl,g1,g2⟩:=h3 k u hu
    exact⟨i,o,rfl,by omega,by rw[CS (hf i rfl g1)];exact g2⟩
theorem Df.nil(s:AE):Df s (.slice none 0 (some 0)) []:=⟨none,some 0,rfl,.inl ⟨0,rfl,zU _,fun _=>rfl⟩,AS.nil⟩
theorem Df.load{s:AE}{a:Option (Nat×Nat)}{l:List Bool}(h:AS s.next s a (G0 l)){k:Nat}{x:Bool}(hk:l[k]? = some x):∃i o,a=some (i,o)∧i<s.next∧AB Tryz.prog s 4 (.ptr (some (i,o+k * 1)))=some (.bool x):=by
 obtain⟨i,o,e,h1,h2⟩:=h k _ (LF hk)
 exact⟨i,o,e,h1,Bq Gz (by rw[zf];exact h2)⟩
theorem Df.pre{s:AE}{a:Option (Nat×Nat)}{cap:Option Nat}{m l:List Bool}(h1:EB 1 s a cap (m++l).length)(h2:AS s.next s a (G0 (m++l))):Df s (.slice a m.length cap) m:=
 ⟨a,cap,rfl,h1.less (by simp),fun k u hu=>h2 k u (by
  have:G0 (m++l)=G0 m++G0 l:=by simp[G0]
  rw[this]
  have hk:k<(G0 m).length:=by
   rcases zX k (G0 m).length with h' | h'
   ·exact h'
   ·rw[zj h']at hu;cases hu
  rw[A0Q hk];exact hu)⟩
section
variable{E:CR}{s:AE}
theorem Uj{Q:Az→Prop}{y1:AV}{a:Option (Nat×Nat)}{cap:Option Nat}{l0:List Bool}(hq:∀l y2,Fc l0=l→Df s (.slice a l.length cap) l→Q ⟨.exit 0,[.slice a l.length cap,y1,y2],[],s⟩):
  ∀ (n:Nat) (l:List Bool) (y2:AV),l.length=n→n≤1000000000000→Fc l=Fc l0→Df s (.slice a l.length cap) l→WC E none (.loop Jt) Q [.slice a l.length cap,y1,y2] [] s:=by
 intro n
 induction n with
 | zero =>
  intro l y2 hl hn ht hb
  have:l=[]:=A0w hl
  subst this
  refine WC.loop' ?_
  simp only[Jt,PE,AH Tryz.underlying124,Rz,show decide (((([]:List Bool).length:Nat):Int) > 0)=false from rfl,Qa,Qb,Qc,Qd,Qf,Qg,Qh,Qi,Qj,Qk,Qm,Qo,true_and,Qp,Qq,Qr,Qs,Qt,Qu,Qv,Qw,Qx,Ra,Rb,Rd,Re,Rs,Ru,Rw,Rz,A1s]
  exact hq [] _ ht.symm hb
 | succ n ih =>
  intro l y2 hl hn ht hb
  obtain⟨m,b,rfl⟩:∃m b,l=m++[b]:=by
   rcases List.eq_nil_or_concat l with rfl | ⟨m,b,e⟩
   ·cases hl
   ·exact⟨m,b,by simpa using e⟩
  have hml:m.length=n:=by simpa using hl
  have hb0:=hb
  obtain⟨a',cap',e,hcap,hc⟩:=hb
  injection e with e1 _ e2
  subst e1;subst e2
  have hk:(m++[b])[m.length]? = some b:=by simp
  obtain⟨i,o,rfl,_,ld⟩:=Df.load hc hk
  have hlen:(m++[b]).length=m.length+1:=by simp
  have ix:=AX (cap:=cap) (i:=i) (o:=o) (n:=1) (k:=m.length) (len:=(m++[b]).length) Tryz.underlying124 TB (by omega)
  have d0:decide (((m++[b]).length:Int) > 0)=true:=decide_eq_true (by omega)
  have es:=CT Tryz.prog 3 ((m++[b]).length:Int) 1 ⟨by omega,by omega⟩
  have es':(((m++[b]).length:Int) - 1)=(m.length:Int):=by omega
  refine WC.loop' ?_
  generalize hW:WC E none (Ac.loop Jt) Q=WW
  cases b with
  | true =>
   simp only[Jt,PE,AH Tryz.underlying124,Rz,d0,es,es',ix,ld,We,Bool.not_true,Qa,Qb,Qc,Qd,Qf,Qg,Qh,Qi,Qj,Qk,Qm,Qo,true_and,Qp,Qq,Qr,Qs,Qt,Qv,Qw,Qx,Ra,Rb,Rd,Re,Rs,Ya,Ru,Rw,Rz,We,A1s]
   exact hq _ _ (by rw[← ht,OX]) hb0
  | false =>
   have cut:=Kf Tryz.underlying124 TB (by decide) hcap (show m.length≤(m++[false]).length by omega)
   simp only[Jt,PE,aJ,AH Tryz.underlying124,Rz,d0,es,es',ix,ld,cut,We,Bool.not_false,Qa,Qb,Qc,Qd,Qf,Qg,Qh,Qi,Qj,Qk,Qm,Qo,true_and,Qp,Qq,Qr,Qs,Qt,Qv,Qw,Qx,Qz,Rb,Rd,Re,Rs,Yb,Ru,Rw,Rz,We,A1s,A1t,A1p]
   rw[← hW]
   exact ih m _ hml (by omega) (by rw[← ht,Ut]) (Df.pre hcap hc)
theorem KQ(hE:GoodN E){v:AV}{l:List Bool}(hv:Df s v l)(hl:l.length≤1000000000000){K:AV→AE→Prop}(hK:∀w,Df s w (Av (bv l))→(∀j,B6 w=some j→B6 v=some j)→K w s):WF E 138 [v] K s:=by
 have hv0:=hv
 obtain⟨a,cap,rfl,_⟩:=hv
 refine hE.go jb (by decide) rfl ?_
 simp only[wC,aI,Qa,Qb,Qc,Qd,Qf,Qh,Qi,Qj,Ql,Qm,Qo,true_and,Qp,Qq,Qt,Qv,Rb,Rh,Rk,Rm,Rn,Yc,A1p]
 refine Uj (l0:=l) (fun l' y2 ht hb=>?_) l.length l _ rfl hl rfl hv0
 simp only[aK,if_true,Qb,Qc,Qd,Qf,Qh,Qj,Qm,Qo,true_and,Qp,Qq,Qr,Qs,Qt,Qv,Rb,Rd,Rg,Rj,A1p]
 rw[IA]at ht
 subst ht
 refine hK _ hb fun j hj=>?_
 cases a with
 | none=>cases hj
 | some io=>obtain⟨i,o⟩:=io;exact hj
theorem GM(hE:GoodN E){v:AV}{l:List Bool}(hv:Df s v l)(hl:l.length≤1000000000000){K:AV→AE→Prop}(hK:∀w,Df s w (Av (bv l))→K w s):WF E 138 [v] K s:=
 KQ hE hv hl fun w h _=>hK w h
theorem Pq(hE:GoodN E){v:AV}{l:List Bool}(hv:Df s v l){i:Nat}{K:AV→AE→Prop}(hK:K (.bool (l.getD i false)) s):WF E 152 [v,iv (i:Int)] K s:=by
  obtain⟨a,cap,rfl,_,hc⟩:=hv
  refine hE.go jg (by decide) rfl ?_
  by_cases hi:i<l.length
  · have hx:l[i]? = some l[i]:=zW hi
    obtain⟨ia,oa,rfl,_,ld⟩:=Df.load hc hx
    have ix:=AX (cap:=cap) (i:=ia) (o:=oa) (n:=1) Tryz.underlying124 TB hi
    have d0:decide ((i:Int)<(l.length:Int))=true:=decide_eq_true (by omega)
    have eg:l.getD i false=l[i]:=by rw[A0k,hx];rfl
    rw[eg]at hK
    simp only[su,Tf,Tg,AH Tryz.underlying124,Ry,d0,ix,ld,Ru,Qa,Qb,Qc,Qd,Qf,Qg,Qh,Qi,Qj,Qk,Ql,Qm,Qo,true_and,Qp,Qq,Qr,Qs,Qt,Qv,Qw,Qx,Rb,Rh,Rj,Rk,Rm,Rn,Rs,Yc,Ru,Rw,Ry,A1p,A1s,A1w]
    exact hK
  · have d0 : decide ((i : Int) < (l.length : Int)) = false := decide_eq_false (by omega)
    have eg:l.getD i false=false:=by rw[A0k,zj (by omega)];rfl
    rw[eg]at hK
    simp only[su,Tf,Tg,AH Tryz.underlying124,Ry,d0,Ru,Qa,Qb,Qc,Qd,Qf,Qg,Qh,Qi,Qj,Qk,Ql,Qm,Qo,true_and,Qp,Qq,Qr,Qs,Qt,Qu,Qv,Qw,Qx,Rb,Rh,Rj,Rk,Rm,Rn,Rs,Yc,Ru,Rw,Ry,A1p,A1s,A1w]
    exact hK
end
section
variable(P:Program)(t:TypeId){a:Nat}
theorem xO{k:IntKind}{n:Nat}(hn:n≤32):AN P .shr t (A6 a) (.int k (n:Int))=some (A6 (a / 2 ^ n)):=by
 show(DM P (Op.shift .shr .u32 (a:Int) k (n:Int))).bind ofValue=_
 unfold Op.shift
 rw[if_neg (by omega)]
 show some (AV.int .u32 ((a:Int).fdiv (2 ^ min (n:Int).toNat 32)))=_
 rw[show min (n:Int).toNat 32=n by omega]
 congr 2
 rw[show((2:Int) ^ n)=((2 ^ n:Nat):Int) by push_cast;rfl]
 exact(Int.ofNat_fdiv a (2 ^ n)).symm
theorem xN{k:IntKind}{n:Nat}(hn:n<32):AN P .shl t (.int .u32 1) (.int k (n:Int))=some (A6 (2 ^ n)):=by
 have h2:2 ^ n<2 ^ 32:=Nat.pow_lt_pow_right (by decide) hn
 show(DM P (Op.shift .shl .u32 1 k (n:Int))).bind ofValue=_
 unfold Op.shift
 rw[if_neg (by omega)]
 show some (AV.int .u32 (IntKind.wrap .u32 (1 * 2 ^ min (n:Int).toNat 32)))=_
 rw[show min (n:Int).toNat 32=n by omega,GA,Int.one_mul]
 congr 2
 rw[show((2:Int) ^ n)=((2 ^ n:Nat):Int) by push_cast;rfl]
 have e32:(2:Nat) ^ 32=4294967296:=by decide
 rw[e32]at h2
 have h5:((2 ^ n:Nat):Int)<4294967296:=Int.ofNat_lt.2 h2
 exact Int.emod_eq_of_lt (Int.natCast_nonneg _) h5
theorem u5(h:a<4294967296):AN P .and t (A6 a) (.int .u32 1)=some (A6 (a % 2)):=by
 show(DM P (Op.intBits .and .u32 (a:Int) 1)).bind ofValue=_
 show some (AV.int .u32 (IntKind.wrap .u32 ((BitVec.ofInt 32 (a:Int) &&& BitVec.ofInt 32 1).toNat:Int)))=_
 rw[GA]
 congr 2
 have:(BitVec.ofInt 32 (a:Int) &&& BitVec.ofInt 32 1).toNat=a % 2:=by
  rw[BitVec.ofInt_natCast,show BitVec.ofInt 32 1=BitVec.ofNat 32 1 from(by decide),BitVec.toNat_and,BitVec.toNat_ofNat,BitVec.toNat_ofNat]
  rw[A0I (show a<2 ^ 32 by omega),show 1 % 2 ^ 32=2 ^ 1 - 1 by decide,Nat.and_two_pow_sub_one_eq_mod]
 rw[this]
 omega
theorem yD{n:Nat}(hn:n<32)(h:a<2 ^ n):AN P .or t (A6 a) (A6 (2 ^ n))=some (A6 (a+2 ^ n)):=by
 have h2:2 ^ n * 2≤2 ^ 32:=by rw[← zy];exact A0K (by decide) hn
 have e32:(2:Nat) ^ 32=4294967296:=by decide
 show(DM P (Op.intBits .or .u32 (a:Int) ((2 ^ n:Nat):Int))).bind ofValue=_
 show some (AV.int .u32 (IntKind.wrap .u32 ((BitVec.ofInt 32 (a:Int) ||| BitVec.ofInt 32 ((2 ^ n:Nat):Int)).toNat:Int)))=_
 rw[GA]
 congr 2
 have:(BitVec.ofInt 32 (a:Int) ||| BitVec.ofInt 32 ((2 ^ n:Nat):Int)).toNat=a+2 ^ n:=by
  rw[BitVec.ofInt_natCast,BitVec.ofInt_natCast,BitVec.toNat_or,BitVec.toNat_ofNat,BitVec.toNat_ofNat]
  rw[A0I (show a<2 ^ 32 by omega),A0I (show 2 ^ n<2 ^ 32 by omega)]
  have:=Nat.two_pow_add_eq_or_of_lt h 1
  rw[zf]at this
  rw[Nat.or_comm,← this,A0s]
 rw[this]
 omega
end
theorem M6(b:Bool):Ad Tryz.prog 124 1 (zipIdx [0] [.bool b])=some (R 4 1 false [.bool b]):=by kernel_rfl
theorem S8:B0 Tryz.prog 124=true:=by kernel_rfl
theorem Wt:DH Tryz.prog 4 1=true:=by kernel_rfl
def Fp(b:Nat)(s:AE)(v:AV)(l:List Bool):Prop:=∃O,FD 4 1 s v l.length (G0 l) O∧∀j∈O,b≤j
theorem Fp.nil(b:Nat)(s:AE):Fp b s (.slice none 0 (some 0)) []:=⟨[],FD.nil _ _ _,fun j h=>by cases h⟩
theorem Fp.rd{b:Nat}{s:AE}{v:AV}{l:List Bool}(h:Fp b s v l):Df s v l:=by
 obtain⟨O,h1,_⟩:=h
 obtain⟨a,cap,rfl,h2,h3⟩:=h1.capZ
 exact⟨a,cap,rfl,h3,h2⟩
theorem Fp.push{b:Nat}{s:AE}{v:AV}{l:List Bool}(h:Fp b s v l)(hb:b≤s.next)(hl:l.length≤1000000000)(x:Bool):
    ∃v' s',Aj Tryz.prog (newObj s (R 4 1 false [.bool x])) [124,124] [v,.slice (some (s.next,0)) 1 (some 1)]=some (v',s')∧Fp b s' v' (l++[x])∧Aa b s s':=by
  obtain⟨O,h1,h2⟩:=h
  obtain⟨n1,o1,g1⟩:=Bs s (R 4 1 false [.bool x])
  generalize hs1:newObj s (R 4 1 false [.bool x])=s1 at *
  obtain⟨v8,s8,O8,happ8,b8,n8,f8,hO8⟩:=HZ Tryz.underlying124 TB xZ (by decide) S8 Wt (by decide) (h1.frame o1.1 fun j hj=>o1.2 j (h1.lt j hj)) g1 rfl rfl hl
  refine⟨v8,s8,happ8,⟨O8,?_,fun j hj=>?_⟩,by omega,fun j hj=>?_⟩
  · have e:G0 (l++[x])=G0 l++[.bool x]:=by simp[G0]
    rw[e,zg]
    exact b8
  · rcases hO8 j hj with hj | hj
    · exact h2 j hj
    · omega
  · rw[f8 j (by omega) (fun h=>by have:=h2 j h;omega),o1.2 j (by omega)]
theorem Md{l:List Nat}:∀ {i:Nat}{x:Nat},l[i]? = some x→AG (l.take (i+1))=AG (l.take i)+LB ^ i * x:=by
 induction l with
 | nil=>intro i x h;cases h
 | cons y l ih =>
  intro i x h
  cases i with
  | zero =>
   injection h with h
   subst h
   show y+LB * AG []=0+1 * y
   show y+LB * 0=_
   omega
  | succ i =>
   have:=ih (i:=i) (x:=x) h
   show y+LB * AG (l.take (i+1))=y+LB * AG (l.take i)+LB ^ (i+1) * x
   rw[this,zp,zy,zt (LB ^ i) LB,zu]
   omega
theorem Oi(i:Nat):LB ^ i=2 ^ (32 * i):=by rw[Nat.pow_mul];rfl
section
variable{E:CR}{s:AE}
theorem ic{s0:AE}{a:Option (Nat×Nat)}{cap:Option Nat}{la:List Nat}(hc:AS s0.next s0 a (us la))(hs:Bi la){i x:Nat}(hx:la[i]? = some x)(hl:la.length≤10000000){Q:Az→Prop}{y1 y5:AV}
  (hq:∀S v out y6,Aa s0.next s0 S→Fp s0.next S v out→out.length=32 * i+32→bv out=AG (la.take (i+1))→Q ⟨.exit 2,[.slice a la.length cap,y1,v,iv (i:Int),iv (32:Int),y5,y6],[],S⟩):
  ∀ (r k:Nat) (S:AE) (v:AV) (out:List Bool) (y6:AV),32 - k=r→k≤32→Aa s0.next s0 S→Fp s0.next S v out→out.length=32 * i+k→bv out=AG (la.take i)+LB ^ i * (x % 2 ^ k)→WC E none (.loop Lr) Q [.slice a la.length cap,y1,v,iv (i:Int),iv (k:Int),y5,y6] [] S:=by
 have hil:i<la.length:=by
  rcases zX i la.length with h' | h'
  ·exact h'
  ·rw[zj h']at hx;cases hx
 have hxl:=hs x (zw hx)
 have e32:(2:Nat) ^ 32=4294967296:=by decide
 have hLB:LB=4294967296:=rfl
 intro r
 induction r with
 | zero =>
  intro k S v out y6 hk hk' ho hO hlen hval
  have e:k=32:=by omega
  subst e
  refine WC.loop' ?_
  simp only[Lr,TR,Ry,show decide (((32:Nat):Int)<32)=false from rfl,Qa,Qb,Qc,Qd,Qf,Qh,Qi,Qj,Qm,Qo,true_and,Qp,Qq,Qr,Qs,Qt,Qv,Ra,Rb,Rd,Re,Ry]
  refine hq S v out _ ho hO hlen ?_
  rw[hval,Md hx,A0I (by rw[e32];omega)]
 | succ r ih =>
  intro k S v out y6 hk hk' ho hO hlen hval
  have hk2:k<32:=by omega
  have d0:decide ((k:Int)<32)=true:=decide_eq_true (by omega)
  have e17:=Ax Tryz.prog 3 (k:Int) 1 ⟨by omega,by omega⟩
  have e17':((k:Int)+1)=((k+1:Nat):Int):=by omega
  obtain⟨i0,o0,rfl,hi0,g0⟩:=hc i _ (DG hx)
  have ix:=AX (cap:=cap) (i:=i0) (o:=o0) Tryz.underlying22 C5 hil
  have ld:AB Tryz.prog S 76 (.ptr (some (i0,o0+i * 1)))=some (A6 x):=Bq G5 (by rw[zf,CS (ho.2 i0 hi0)];exact g0)
  have hsh:AN Tryz.prog .shr 76 (A6 x) (iv (k:Int))=some (A6 (x / 2 ^ k)):=xO _ _ (by omega)
  have hdv:x / 2 ^ k≤x:=A0Y _ _
  have han:AN Tryz.prog .and 76 (A6 (x / 2 ^ k)) (.int .u32 1)=some (A6 (x / 2 ^ k % 2)):=u5 _ _ (by omega)
  have heq:AN Tryz.prog .eql 76 (A6 (x / 2 ^ k % 2)) (.int .u32 1)=some (.bool (decide (x / 2 ^ k % 2=1))):=iG _ _ .u32
  obtain⟨v',S',happ,hO',ho'⟩:=hO.push ho.1 (by omega) (decide (x / 2 ^ k % 2=1))
  refine WC.loop' ?_
  generalize hW:WC E none (Ac.loop Lr) Q=WW
  simp only[Lr,TR,Y3,Ry,d0,ix,ld,hsh,han,heq,M6,Xe,happ,Y4,e17,e17',Qa,Qb,Qc,Qd,Qf,Qh,Qi,Qj,Qk,Qm,Qo,true_and,Qp,Qq,Qr,Qs,Qt,Qv,Qz,Rb,Rd,Re,Yc,Ry,A1t,A1v,A1m,A1w,A1p]
  rw[← hW]
  refine ih (k+1) S' v' _ _ (by omega) (by omega) (ho.trans ho') hO' (by rw[zg,hlen];rfl) ?_
  rw[GV,hval,hlen,KX,Nat.mod_pow_succ,A1G,← Oi,zp,zu]
  omega
theorem YY{s0:AE}{a:Option (Nat×Nat)}{cap:Option Nat}{la:List Nat}(hc:AS s0.next s0 a (us la))(hs:Bi la)(hl:la.length≤10000000){Q:Az→Prop}{y1:AV}
  (hq:∀S v out y3 y4 y5 y6,Aa s0.next s0 S→Fp s0.next S v out→out.length=32 * la.length→bv out=AG la→Q ⟨.exit 0,[.slice a la.length cap,y1,v,y3,y4,y5,y6],[],S⟩):
  ∀ (r i:Nat) (S:AE) (v:AV) (out:List Bool) (y4 y5 y6:AV),la.length - i=r→i≤la.length→Aa s0.next s0 S→Fp s0.next S v out→out.length=32 * i→bv out=AG (la.take i)→WC E none (.loop I6) Q [.slice a la.length cap,y1,v,iv (i:Int),y4,y5,y6] [] S:=by
 intro r
 induction r with
 | zero =>
  intro i S v out y4 y5 y6 hi hi' ho hO hlen hval
  have d0:decide ((i:Int)<(la.length:Int))=false:=decide_eq_false (by omega)
  refine WC.loop' ?_
  simp only[I6,TQ,AH Tryz.underlying22,Ry,d0,Qa,Qb,Qc,Qd,Qf,Qh,Qj,Qk,Qm,Qo,true_and,Qp,Qq,Qr,Qs,Qt,Qv,Ra,Rb,Rd,Ry,A1s,A1x]
  exact hq S v out _ _ _ _ ho hO (by omega) (by rw[hval,A0V (by omega)])
 | succ r ih =>
  intro i S v out y4 y5 y6 hi hi' ho hO hlen hval
  have hlt:i<la.length:=by omega
  have d0:decide ((i:Int)<(la.length:Int))=true:=decide_eq_true (by omega)
  have e17:=Ax Tryz.prog 3 (i:Int) 1 ⟨by omega,by omega⟩
  have e17':((i:Int)+1)=((i+1:Nat):Int):=by omega
  have hx:la[i]? = some la[i]:=zW hlt
  refine WC.loop' ?_
  generalize hW:WC E none (Ac.loop I6) Q=WW
  simp only[I6,TQ,Y2,AH Tryz.underlying22,Ry,d0,Qa,Qb,Qc,Qd,Qf,Qh,Qi,Qj,Qk,Qm,Qo,true_and,Qp,Qq,Qr,Qs,Qt,Qv,Qz,Rb,Rd,Ry,A1s,A1x,A1p]
  refine ic (s0:=s0) hc hs hx hl (fun S' v' out' y6' ho' hO' hlen' hval'=>?_) 32 0 S v out _ rfl (by decide) ho hO (by rw[hlen];rfl) (by rw[hval,Nat.pow_zero,Nat.mod_one,A0F,zv])
  simp only[Y5,if_true,e17,e17',Qb,Qc,Qd,Qf,Qh,Qi,Qj,Qk,Qm,Qo,true_and,Qp,Qq,Qr,Qs,Qt,Qv,Rb,Rd,Re,Rg,A1t,A1p]
  rw[← hW]
  exact ih (i+1) S' v' out' _ _ _ (by omega) (by omega) ho' hO' (by omega) hval'
theorem Ce(hE:GoodN E){v:AV}{l:List Nat}(hv:By s v l)(hs:Bi l)(hl:l.length≤10000000){K:AV→AE→Prop}(hK:∀s' w,Aa s.next s s'→Df s' w (Av (AG l))→K w s'):WF E 104 [v] K s:=by
 obtain⟨a,cap,rfl,_,hc⟩:=hv
 refine hE.go jH (by decide) rfl ?_
 simp only[vP,Yz,Y0,Y1,Qa,Qb,Qc,Qd,Qf,Qh,Qi,Qj,Ql,Qm,Qo,true_and,Qp,Qq,Qt,Qv,Rb,Rh,Rk,Rm,Rn,Yc,A1p]
 refine YY hc hs hl (fun S v out y3 y4 y5 y6 ho hO hlen hval=>?_) l.length 0 s _ [] _ _ _ rfl (ze _) (Aa.refl _ _) (Fp.nil _ _) rfl rfl
 simp only[VQ,if_true,Qb,Qc,Qd,Qf,Qh,Qj,Qk,Qm,Qo,true_and,Qr,Qs,Qt,Qv,Rb,Rd,Rg,Rj,A1u,A1p]
 refine GM hE hO.rd (by omega) fun w hw=>?_
 simp only[Qd,Qo,true_and,Qp,Qq,Qr,Qs]
 rw[hval]at hw
 exact hK S w ho hw
end
theorem FD.store1  {e : TypeId} {P : Program} {s : AE}  {v : AV} {n k t : Nat} {cs : List AV} {O : List Nat} {u : AV} (hs : BJ    P t = some 1) (h : FD  e 1 s v n cs O) (hk : k < n) (hu : u.isCell = true) :
    ∃i s',v=.slice (some (i,0)) n none∧i∈O∧AO P s t (.ptr (some (i,k))) u=some s'∧(∃O',FD e 1 s' v n (cs.set k u) O'∧∀j∈O',j∈O)∧s'.next=s.next∧∀j,j ∉ O→s'.heap.get j=s.heap.get j:=by
  have hlen:=h.len
  rcases h with⟨_,h2,_⟩ | ⟨i,p,rfl,h1,h2⟩
  · omega
  · rcases h1.ex with ⟨e', _⟩ | ⟨_, k2, k3, k4, r, k5, k6, k7, k8, k9, k10, k11⟩
    · cases e'
    · have hc : u.cells = [u] := by cases u <;> first | rfl | cases hu
      have hrow:rowAt s i=some r:=by unfold rowAt;rw[k5]
      have hb:Nat.ble (k+1) r.n=true:=CU (by rw[k6.1];omega)
      have hal:Aq [u]=true:=by simp[Aq,hu]
      have est:AO P s t (.ptr (some (i,k))) u=some (setObj (BT s i r) i (.row { r with c:=r.c.fill k [u],par:=none })):=by
        rw[Wh,hs,hc]
        show AQ (decide (1=1)) (C3 s i k [u])=_
        show(rowAt s i).bind _=_
        rw[hrow]
        show AQ (EG r.mode && Nat.ble (k+1) r.n && Aq [u]) _=_
        rw[k8,hb,hal]
        rfl
      have hun:(BT s i r).next=s.next∧∀j,j ∉ O→(BT s i r).heap.get j=s.heap.get j:=by
        unfold BT
        rw[k10]
        cases p with
        | none=>exact⟨rfl,fun j _=>rfl⟩
        | some q =>
          simp only
          cases hbq:Nat.beq q i with
          | true=>exact⟨rfl,fun j _=>rfl⟩
          | false =>
            refine⟨rfl,fun j hj=>?_⟩
            show(Cg s q).heap.get j=_
            rw[HL,if_neg]
            intro e
            exact hj (by rw[h2,e];simp)
      have hiO:i∈O:=by rw[h2];exact zs
      refine⟨i,_,rfl,hiO,est,⟨[i],.inr ⟨i,none,rfl,⟨by rw[A0j];exact h1.len,.inr ⟨rfl,k2,by show i<(BT s i r).next;rw[hun.1];exact k3,fun q hq=>(by cases hq),{ r with c:=r.c.fill k [u],par:=none },Ww _ _ _,⟨by show r.n=_;rw[k6.1,A0j],fun m w hw=>?_⟩,k7,k8,k9,rfl,k11⟩⟩,rfl⟩,fun j hj=>by rw[A1d.1 hj];exact hiO⟩,hun.1,fun j hj=>?_⟩
      · show(r.c.fill k [u]).get m=some w
        rw[Ab.get_fill]
        by_cases hm:m=k
        · subst hm
          rw[A1f (by omega)]at hw
          rw[if_pos ⟨zU _,by simp⟩,A1M]
          exact hw
        · rw [A1A                  (Ne.symm hm)] at hw
          rw[if_neg (by simp;omega)]
          exact k6.2 m w hw
      · rw[Wx _ (fun e=>hj (by rw[e];exact hiO))];exact hun.2 j hj
def Iy(b:Nat)(s:AE)(v:AV)(l:List Nat):Prop:=∃O,FD 76 1 s v l.length (us l) O∧∀j∈O,b≤j
theorem Iy.nil(b:Nat)(s:AE):Iy b s (.slice none 0 (some 0)) []:=⟨[],FD.nil _ _ _,fun j h=>by cases h⟩
theorem Iy.n32{b:Nat}{s:AE}{v:AV}{l:List Nat}(h:Iy b s v l):By s v l:=by
 obtain⟨O,h1,_⟩:=h
 obtain⟨a,cap,rfl,h2,h3⟩:=h1.capZ
 refine⟨a,cap,rfl,?_,h2⟩
 rcases h3 with h3 | ⟨h3,i,o,r,h4,h5,h6,h7,h8⟩
 ·exact .inl h3
 ·exact .inr ⟨h3,i,o,r,h4,h5,h6,h7,by omega⟩
theorem Ui(x:Nat):Ad Tryz.prog 22 1 (zipIdx [0] [A6 x])=some (R 76 1 false [A6 x]):=by kernel_rfl
theorem Iy.push{b:Nat}{s:AE}{v:AV}{l:List Nat}(h:Iy b s v l)(hb:b≤s.next)(hl:l.length≤1000000000)(x:Nat):
    ∃v' s',Aj Tryz.prog (newObj s (R 76 1 false [A6 x])) [22,22] [v,.slice (some (s.next,0)) 1 (some 1)]=some (v',s')∧Iy b s' v' (l++[x])∧Aa b s s':=by
  obtain⟨O,h1,h2⟩:=h
  obtain⟨n1,o1,g1⟩:=Bs s (R 76 1 false [A6 x])
  generalize hs1:newObj s (R 76 1 false [A6 x])=s1 at *
  obtain⟨v8,s8,O8,happ8,b8,n8,f8,hO8⟩:=HZ Tryz.underlying22 C5 W7 (by decide) S9 NU (by decide) (h1.frame o1.1 fun j hj=>o1.2 j (h1.lt j hj)) g1 rfl rfl hl
  refine⟨v8,s8,happ8,⟨O8,?_,fun j hj=>?_⟩,by omega,fun j hj=>?_⟩
  · have e:us (l++[x])=us l++[A6 x]:=by simp[us]
    rw[e,zg]
    exact b8
  · rcases hO8 j hj with hj | hj
    · exact h2 j hj
    · omega
  · rw[f8 j (by omega) (fun h=>by have:=h2 j h;omega),o1.2 j (by omega)]
theorem Iy.set{b:Nat}{s:AE}{v:AV}{l:List Nat}(h:Iy b s v l){k:Nat}(hk:k<l.length)(y:Nat):
  ∃i s',v=.slice (some (i,0)) l.length none∧AB Tryz.prog s 76 (.ptr (some (i,0+k * 1)))=some (A6 l[k])∧AO Tryz.prog s 76 (.ptr (some (i,0+k * 1))) (A6 y)=some s'∧Iy b s' v (l.set k y)∧Aa b s s':=by
 obtain⟨O,h1,h2⟩:=h
 obtain⟨a',cap',ev',hc'⟩:=h1.slice
 obtain⟨i,s',ev,hiO,st,⟨O',hb',hO'⟩,hn,hf⟩:=h1.store1 (P:=Tryz.prog) (t:=76) (u:=A6 y) C5 hk rfl
 rw[ev]at ev'
 injection ev' with e1 _ _
 subst e1
 obtain⟨i1,o1,e2,_,g⟩:=hc' k (A6 l[k]) (DG (zW hk))
 injection e2 with e2
 injection e2 with e2 e3
 subst e2;subst e3
 refine⟨_,s',ev,Bq G5 (by rw[zf];exact g),by rw[zf,zk];exact st,⟨O',?_,fun j hj=>h2 j (hO' j hj)⟩,by omega,fun j hj=>hf j fun h=>by have:=h2 j h;omega⟩
 rw[Ix,A0j]at *
 exact hb'
theorem Sw:∀ {lo:List Nat}{h:Nat},h≠0→DL (lo++[h])=lo++[h]
 | [],h,h0=>by show(if h=0∧DL []=[]then []else h::DL [])=[h];rw[if_neg (fun e=>h0 e.1)];rfl
 | x::lo,h,h0=>by
  show(if x=0∧DL (lo++[h])=[]then []else x::DL (lo++[h]))=x::(lo++[h])
  rw[Sw h0,if_neg (fun e=>by cases lo<;>cases e.2)]
theorem QW(P:Program)(t:TypeId)(a b:Nat)(hb:b≠0):AN P .rem t (iv (a:Int)) (.int .i64 (b:Int))=some (iv ((a % b:Nat):Int)):=by
 show(DM P (Op.intDiv .rem .i64 (a:Int) (b:Int))).bind ofValue=_
 have hb':¬ ((b:Int)=0):=by omega
 unfold Op.intDiv
 rw[if_neg hb']
 rfl
theorem YX(P:Program)(t:TypeId)(a b:Nat)(hb:b≠0)(ha:a≤4000000000000):AN P .quo t (iv (a:Int)) (.int .i64 (b:Int))=some (iv ((a / b:Nat):Int)):=by
 show(DM P (Op.intDiv .quo .i64 (a:Int) (b:Int))).bind ofValue=_
 have hb':¬ ((b:Int)=0):=by omega
 unfold Op.intDiv
 rw[if_neg hb']
 show some (AV.int .i64 (IntKind.wrap .i64 ((a:Int).tdiv (b:Int))))=_
 rw[show(a:Int).tdiv (b:Int)=((a / b:Nat):Int)from rfl,← Fd,Jk]
 have:a / b≤a:=A0Y a b
 generalize a / b=q at this ⊢
 exact⟨by omega,by omega⟩
def iR(b:List Bool)(i:Nat)(out:List Nat):Prop:=(i=0∧out=[])∨(0<i∧∃lo h,out=lo++[h]∧lo.length=(i - 1) / 32∧Bi lo∧h<2 ^ (i - 32 * ((i - 1) / 32))∧AG out=bv (b.take i))
theorem DY{b:List Bool}{i:Nat}{x:Bool}(h:b[i]? = some x):bv (b.take (i+1))=bv (b.take i)+2 ^ i * x.toNat:=by
 have hi:i<b.length:=by
  rcases zX i b.length with h' | h'
  ·exact h'
  ·rw[zj h']at h;cases h
 have e:b.take (i+1)=b.take i++[x]:=by rw[List.take_add_one,h];rfl
 rw[e,GV,zo,A0c (by omega)]
theorem iR.end   {n : Nat} {out : List Nat} (h : iR   (Av    n) (Av    n).length out) : out = AR    n := by
  rcases h with⟨h1,rfl⟩ | ⟨h0,lo,h,rfl,h1,h2,h3,h4⟩
  · by_cases hn : n = 0
    · rw[hn,BN]
    · exact absurd (A0w h1) (I2 hn)
  · rw[A1J,BK]at h4
    have hn:n≠0:=by
      rintro rfl
      rw[CD]at h0
      simp at h0
    have hge:=Ot hn
    have hh:h≠0:=by
      rintro rfl
      rw[Cj,A0F,zv]at h4
      have h5:=CQ h2
      rw[h4,Oi]at h5
      have:2 ^ (32 * lo.length)≤2 ^ ((Av n).length - 1):=A0K (by decide) (by omega)
      omega
    have hl:Bi (lo++[h]):=fun x hx=>by
      rcases A1V.1 hx with hx | hx
      · exact h2 x hx
      · rw[A1d.1 hx]
        have:2 ^ ((Av n).length - 32 * (((Av n).length - 1) / 32))≤2 ^ 32:=A0K (by decide) (by omega)
        have e32:(2:Nat) ^ 32=LB:=by decide
        omega
    rw[← h4,← B8 hl,Sw hh]
section
variable{E:CR}{s:AE}
theorem UN         {s0 : AE}  {a : Option (Nat × Nat)} {cap : Option Nat} {b : List Bool} (hc : AS      s0.next s0 a (G0  b)) (hl : b.length ≤ 1000000000) {Q : Az   → Prop} {y1 : AV}
    (hq:∀S v out y3 y4 y5 y6,Aa s0.next s0 S→Iy s0.next S v out→iR b b.length out→Q ⟨.exit 0,[.slice a b.length cap,y1,v,y3,y4,y5,y6],[],S⟩):
    ∀ (r i:Nat) (S:AE) (v:AV) (out:List Nat) (y4 y5 y6:AV),b.length - i=r→i≤b.length→Aa s0.next s0 S→Iy s0.next S v out→iR b i out→WC E none (.loop Hk) Q [.slice a b.length cap,y1,v,iv (i:Int),y4,y5,y6] [] S:=by
  intro r
  induction r with
  | zero =>
    intro i S v out y4 y5 y6 hi hi' ho hO hI
    have d0:decide ((i:Int)<(b.length:Int))=false:=decide_eq_false (by omega)
    refine WC.loop' ?_
    simp only[Hk,Oy,AH Tryz.underlying124,Ry,d0,Qa,Qb,Qc,Qd,Qf,Qh,Qj,Qk,Qm,Qo,true_and,Qp,Qq,Qr,Qs,Qt,Qv,Ra,Rb,Rd,Re,Ry,A1s,A1x]
    exact hq S v out _ _ _ _ ho hO (by rw[show b.length=i by omega];exact hI)
  | succ r ih =>
    intro i S v out y4 y5 y6 hi hi' ho hO hI
    have hlt:i<b.length:=by omega
    have d0:decide ((i:Int)<(b.length:Int))=true:=decide_eq_true (by omega)
    have e17:=Ax Tryz.prog 3 (i:Int) 1 ⟨by omega,by omega⟩
    have e17':((i:Int)+1)=((i+1:Nat):Int):=by omega
    have erem:AN Tryz.prog .rem 3 (iv (i:Int)) (.int .i64 32)=some (iv ((i % 32:Nat):Int)):=QW _ _ i 32 (by decide)
    have equo:AN Tryz.prog .quo 3 (iv (i:Int)) (.int .i64 32)=some (iv ((i / 32:Nat):Int)):=YX _ _ i 32 (by decide) (by omega)
    have hx:b[i]? = some b[i]:=zW hlt
    generalize hbi:b[i]=x at hx
    obtain⟨i0,o0,rfl,hi0,ld0⟩:=Df.load hc hx
    have ix:=AX (cap:=cap) (i:=i0) (o:=o0) (n:=1) Tryz.underlying124 TB hlt
    have e232:(2:Nat) ^ 32=4294967296:=by decide
    have hLB:LB=4294967296:=rfl
    refine WC.loop' ?_
    generalize hW:WC E none (Ac.loop Hk) Q=WW
    have key:∀ (S:AE) (v:AV) (lo:List Nat) (h:Nat) (y4 y5 y6:AV),Aa s0.next s0 S→Iy s0.next S v (lo++[h])→lo.length=i / 32→Bi lo→h<2 ^ (i % 32)→AG (lo++[h])=bv (b.take i) →
        Qa E none (.seq (.ops Oz) (.cond (.var 6) (.ops TM) .skip)) (Ed 1 (IG (fun v m s'=>Qa E none (.ops PA) (IG WW Q) v m s') (IG WW Q))) [.slice (some (i0,o0)) b.length cap,y1,v,iv (i:Int),y4,y5,y6] [] S:=by
      intro S v lo h y4 y5 y6 ho hO hlo hls hh hval
      have ld:=Ci Gz ho hi0 ld0
      have hp:2 ^ (i % 32) * 2≤2 ^ 32:=by rw[← zy];exact A0K (by decide) (by omega)
      cases x with
      | false =>
        simp only[Oz,PA,ix,ld,e17,e17',Qa,Qb,Qc,Qd,Qf,Qh,Qi,Qj,Qk,Qm,Qo,true_and,Qp,Qq,Qr,Qs,Qt,Qv,Ra,Rb,Re,A1v,A1t,A1p]
        rw[← hW]
        refine ih (i+1) S v (lo++[h]) _ _ _ (by omega) (by omega) ho hO (.inr ⟨by omega,lo,h,rfl,by rw[hlo,A0r],hls,zZ hh (A0K (by decide) (by omega)),?_⟩)
        rw[hval,DY hx];rfl
      | true =>
        have hk:i / 32<(lo++[h]).length:=by rw[zg,hlo];show _<_+1;omega
        obtain⟨ir,S',rfl,lr,sr,hO',ho'⟩:=hO.set hk (h+2 ^ (i % 32))
        have hget:(lo++[h])[i / 32]=h:=by
          rw[List.getElem_append_right (by omega)];simp[hlo]
        rw[hget]at lr
        have hset:(lo++[h]).set (i / 32) (h+2 ^ (i % 32))=lo++[h+2 ^ (i % 32)]:=by
          rw[← hlo,List.set_append_right _ _ (zU _),A1M];rfl
        rw[hset]at hO'
        have ixr:=AX (cap:=none) (i:=ir) (o:=0) (n:=1) Tryz.underlying22 C5 hk
        have esh:AN Tryz.prog .shl 76 (.int .u32 1) (iv ((i % 32:Nat):Int))=some (A6 (2 ^ (i % 32))):=xN _ _ (by omega)
        have eor:AN Tryz.prog .or 76 (A6 h) (A6 (2 ^ (i % 32)))=some (A6 (h+2 ^ (i % 32))):=yD _ _ (by omega) hh
        simp only[Oz,TM,PA,ix,ld,equo,ixr,lr,erem,esh,eor,sr,e17,e17',Xy,Za,Qa,Qb,Qc,Qd,Qf,Qh,Qi,Qj,Qk,Qm,Qo,true_and,Qp,Qq,Qr,Qs,Qt,Qv,Qz,Rb,Re,A1v,A1m,A1w,A1o,A1t,A1p]
        rw[← hW]
        have ev:AV.slice (some (ir,0)) (lo++[h]).length none=.slice (some (ir,0)) (lo++[h+2 ^ (i % 32)]).length none:=by rw[zg,zg];rfl
        rw[ev]at hO' ⊢
        refine ih (i+1) S' _ (lo++[h+2 ^ (i % 32)]) _ _ _ (by omega) (by omega) (ho.trans ho') hO' (.inr ⟨by omega,lo,h+2 ^ (i % 32),rfl,by rw[hlo,A0r],hls,?_,?_⟩)
        · have:2 ^ (i % 32+1)≤2 ^ (i+1 - 32 * ((i+1 - 1) / 32)):=A0K (by decide) (by omega)
          rw[zy]at this
          omega
        · rw [Cj]        at hval
          rw[Cj,DY hx,← hval,zp,Oi,← A1G,show 32 * lo.length+i % 32=i by omega]
          show _=_+2 ^ i * 1
          omega
    by_cases hm:i % 32=0
    · have dm : decide (((i % 32 : Nat) : Int) = 0) = true := decide_eq_true (by omega)
      have hlo:out.length=i / 32∧Bi out∧AG out=bv (b.take i):=by
        rcases hI with⟨rfl,rfl⟩ | ⟨h0,lo,h,rfl,h1,h2,h3,h4⟩
        · exact⟨rfl,fun x hx=>(by cases hx),rfl⟩
        · refine ⟨by rw [zg,                 h1]; show _ + 1 = _; omega, fun y hy => ?_, h4⟩
          rcases A1V.1 hy with hy | hy
          · exact h2 y hy
          · rw[A1d.1 hy]
            have:2 ^ (i - 32 * ((i - 1) / 32))≤2 ^ 32:=A0K (by decide) (by omega)
            omega
      obtain⟨v',S',happ,hO',ho'⟩:=hO.push ho.1 (by omega) 0
      have er:Ad Tryz.prog 22 1 (zipIdx [0] [.int .u32 0])=some (R 76 1 false [A6 0]):=Ui 0
      have hk:=key S' v' out 0 (.bool true) (.bool true) y6 (ho.trans ho') hO' hlo.1 hlo.2.1 (A0f (by decide)) (by rw[Cj,A0F,zv];exact hlo.2.2)
      simp only[Hk,Oy,TL,Yt,AH Tryz.underlying124,Ry,Wc,d0,erem,dm,er,Xe,happ,Qa,Qb,Qc,Qd,Qf,Qh,Qi,Qj,Qk,Qm,Qo,true_and,Qp,Qq,Qr,Qs,Qt,Qv,Qz,Rb,Rd,Re,Yc,Ry,Wc,A1s,A1x,A1t,A1p]at hk ⊢
      exact hk
    · have dm:decide (((i % 32:Nat):Int)=0)=false:=decide_eq_false (by omega)
      rcases hI with⟨rfl,rfl⟩ | ⟨h0,lo,h,rfl,h1,h2,h3,h4⟩
      · exact absurd rfl hm
      · have hk:=key S v lo h (.bool true) (.bool false) y6 ho hO (by omega) h2 (by rw[show i % 32=i - 32 * ((i - 1) / 32) by omega];exact h3) h4
        simp only[Hk,Oy,TL,AH Tryz.underlying124,Ry,Wc,d0,erem,dm,Qa,Qb,Qc,Qd,Qf,Qh,Qi,Qj,Qk,Qm,Qo,true_and,Qp,Qq,Qr,Qs,Qt,Qv,Qz,Ra,Rb,Rd,Re,Ry,Wc,A1s,A1x]at hk ⊢
        exact hk
theorem Ie(hE:GoodN E){v:AV}{l:List Bool}(hv:Df s v l)(hl:l.length≤1000000000){K:AV→AE→Prop}(hK:∀s' w,Aa s.next s s'→By s' w (AR (bv l))→(∀j,B6 w=some j→s.next≤j∧j<s'.next)→K w s'):WF E 102 [v] K s:=by
 refine hE.go jF (by decide) rfl ?_
 simp only[vN,Yp,Yq,Qa,Qb,Qc,Qd,Qf,Qh,Qi,Qj,Qk,Ql,Qm,Qo,true_and,Qp,Qq,Qr,Qt,Qv,Rb,Rh,Rk,Rm,Rn,Yc,A1p,A1t,A1u]
 refine GM hE hv (by omega) fun w hw=>?_
 obtain⟨a,cap,rfl,_,hc⟩:=hw
 have htl:=FR (Ej l)
 simp only[Yr,Ys,Qb,Qc,Qd,Qf,Qh,Qi,Qm,Qo,true_and,Qp,Qq,Qr,Qt,Qv,A1p]
 refine UN hc (by omega) (fun S v out y3 y4 y5 y6 ho hO hI=>?_) (Av (bv l)).length 0 s _ [] _ _ _ rfl (ze _) (Aa.refl _ _) (Iy.nil _ _) (.inl ⟨rfl,rfl⟩)
 simp only[VG,if_true,Qb,Qc,Qd,Qf,Qh,Qj,Qm,Qo,true_and,Qp,Qq,Qr,Qs,Qt,Qv,Rb,Rd,Rg,Rj,A1p]
 have e:=hI.end
 have hn:=hO.n32
 rw[e]at hn
 refine hK S _ ho hn fun j hj=>?_
 obtain⟨O,h1,h2⟩:=hO
 exact⟨h2 j (h1.slotO hj),h1.lt j (h1.slotO hj)⟩
theorem GC(hE:GoodN E){v:AV}{l:List Bool}(hv:Df s v l)(hl:l.length≤1000000000){K:AV→AE→Prop}(hK:∀s' w,Aa s.next s s'→By s' w (AR (bv l))→K w s'):WF E 102 [v] K s:=Ie hE hv hl fun s' w o h _=>hK s' w o h
end
theorem GW(l:List Bool)(i:Nat):bv (l.take (i+1))=bv (l.take i)+2 ^ i * (l.getD i false).toNat:=by
 rcases zX i l.length with h | h
 ·have hx:l[i]? = some l[i]:=zW h
  rw[DY hx,A0k,hx];rfl
 ·rw[A0V (by omega),A0V h,A0k,zj h]
  show _=_+2 ^ i * 0
  omega
theorem Lp(l:List Bool)(i:Nat):bv l=bv (l.take i)+2 ^ i * bv (l.drop i):=by
 rcases zX l.length i with h | h
 ·rw[A0V (by omega),A0D (by omega)]
  show _=_+2 ^ i * 0
  omega
 ·have:=Jq (l.take i) (l.drop i)
  rw[A0g,zo,A0c h]at this
  exact this
def jA(x y c:Bool):Bool:=(x && y) || (c && (x || y))
def ij(x y c:Bool):Bool:=(!x && (y || c)) || (x && y && c)
theorem jB(x y c:Bool):((x != y) != c).toNat+2 * (jA x y c).toNat=x.toNat+y.toNat+c.toNat:=by cases x<;>cases y<;>cases c<;>rfl
theorem ik(x y c:Bool):((x != y) != c).toNat+y.toNat+c.toNat=x.toNat+2 * (ij x y c).toNat:=by cases x<;>cases y<;>cases c<;>rfl
section
variable{E:CR}{s:AE}
theorem Xp        (hE : GoodN E) {s0 : AE}  {va vb : AV} {a b : List Bool} (ha : Df  s0 va a) (hb : Df  s0 vb b) (hal : a.length ≤ 100000000) (hbl : b.length ≤ 100000000) {Q : Az   → Prop} {y2 : AV}
    (hq:∀S v out y4 y5 y6 y7 y8,Aa s0.next s0 S→Fp s0.next S v out→out.length≤200000000→bv out=bv a+bv b→Q ⟨.exit 0,[va,vb,y2,v,y4,y5,y6,y7,y8],[],S⟩):
    ∀ (r i:Nat) (S:AE) (v:AV) (out:List Bool) (c:Bool) (y6 y7 y8:AV),max a.length b.length+1 - i=r→i≤max a.length b.length+1→Aa s0.next s0 S→Fp s0.next S v out→out.length=i→bv out+2 ^ i * c.toNat=bv (a.take i)+bv (b.take i)→WC E none (.loop GX) Q [va,vb,y2,v,.bool c,iv (i:Int),y6,y7,y8] [] S:=by
  obtain⟨aa,ca,rfl,hca,hcca⟩:=ha
  obtain⟨ab,cb,rfl,hcb,hccb⟩:=hb
  intro r
  induction r with
  | zero =>
    intro i S v out c y6 y7 y8 hr hi ho hO hl hv
    have ei:i=max a.length b.length+1:=by omega
    have hta:a.take i=a:=A0V (by omega)
    have htb:b.take i=b:=A0V (by omega)
    have h1:=Ej a
    have h2:=Ej b
    have h3:2 ^ a.length≤2 ^ (i - 1):=A0K (by decide) (by omega)
    have h4:2 ^ b.length≤2 ^ (i - 1):=A0K (by decide) (by omega)
    have h5:2 ^ i=2 ^ (i - 1) * 2:=by rw[← zy];congr 1;omega
    have hc:c=false:=by
      cases c with
      | false=>rfl
      | true =>
        rw[hta,htb]at hv
        have:2 ^ i * (true).toNat=2 ^ i:=by show _ * 1=_;omega
        omega
    subst hc
    have d1:decide ((i:Int)<(a.length:Int))=false:=decide_eq_false (by omega)
    have d2:decide ((i:Int)<(b.length:Int))=false:=decide_eq_false (by omega)
    refine WC.loop' ?_
    simp only[GX,Ju,AH Tryz.underlying124,Ry,d1,d2,Ru,Qa,Qb,Qc,Qd,Qf,Qg,Qh,Qi,Qj,Qk,Qm,Qo,true_and,Qp,Qq,Qr,Qs,Qt,Qv,Qw,Qx,Ra,Rb,Rd,Re,Rt,Yb,Ru,Rw,Ry,A1s,A1w]
    refine hq S v out _ _ _ _ _ ho hO (by omega) ?_
    rw[hta,htb]at hv
    exact hv
  | succ r ih =>
    intro i S v out c y6 y7 y8 hr hi ho hO hl hv
    have hi2:i≤max a.length b.length:=by omega
    have e17:=Ax Tryz.prog 3 (i:Int) 1 ⟨by omega,by omega⟩
    have e17':((i:Int)+1)=((i+1:Nat):Int):=by omega
    have hba:Df S (.slice aa a.length ca) a:=Df.old ⟨aa,ca,rfl,hca,hcca⟩ ho
    have hbb:Df S (.slice ab b.length cb) b:=Df.old ⟨ab,cb,rfl,hcb,hccb⟩ ho
    by_cases hstop:a.length≤i∧b.length≤i∧c=false
    · obtain⟨q1,q2,rfl⟩:=hstop
      have d1:decide ((i:Int)<(a.length:Int))=false:=decide_eq_false (by omega)
      have d2:decide ((i:Int)<(b.length:Int))=false:=decide_eq_false (by omega)
      refine WC.loop' ?_
      simp only[GX,Ju,AH Tryz.underlying124,Ry,d1,d2,Ru,Qa,Qb,Qc,Qd,Qf,Qg,Qh,Qi,Qj,Qk,Qm,Qo,true_and,Qp,Qq,Qr,Qs,Qt,Qv,Qw,Qx,Ra,Rb,Rd,Re,Rt,Yb,Ru,Rw,Ry,A1s,A1w]
      refine hq S v out _ _ _ _ _ ho hO (by omega) ?_
      rw[A0V q1,A0V q2]at hv
      exact hv
    · have rest:Qa E none (.seq (.block 1 (.seq (.ops GY) (.seq (.ops GZ) (.ops Ga)))) (.ops Gb)) (IG (WC E none (.loop GX) Q) Q) [.slice aa a.length ca,.slice ab b.length cb,y2,v,.bool c,iv (i:Int),y6,y7,.bool true] [] S:=by
        generalize hW:WC E none (Ac.loop GX) Q=WW
        simp only[GY,Qa,Qb,Qc,Qd,Qf,Qh,Qj,Qk,Qm,Qo,true_and,Qr,Qs,Qt,Qv,Rb,Re,A1u,A1p]
        refine Pq hE hba ?_
        simp only[Qd,Qo,true_and,Qr,Qs]
        refine Pq hE hbb ?_
        have hva:=GW a i
        have hvb:=GW b i
        generalize a.getD i false=x at hva ⊢
        generalize b.getD i false=y at hvb ⊢
        obtain⟨v',S',happ,hO',ho'⟩:=hO.push ho.1 (by omega) ((x != y) != c)
        have hn1:AN Tryz.prog .neq 4 (.bool x) (.bool y)=some (.bool (x != y)):=Ep x y
        have hn2:AN Tryz.prog .neq 4 (.bool (x != y)) (.bool c)=some (.bool ((x != y) != c)):=Ep _ _
        simp only[GZ,hn1,hn2,M6,Xe,happ,Qb,Qc,Qd,Qf,Qh,Qj,Qk,Qm,Qo,true_and,Qp,Qq,Qr,Qs,Qt,Qv,Yc,A1t,A1w,A1p]
        have fin:∀ (w:AV) (y8:AV),w=.bool (jA x y c)→WW [.slice aa a.length ca,.slice ab b.length cb,y2,v',w,iv ((i+1:Nat):Int),.bool x,.bool y,y8] [] S':=fun w y8 hw=>by
          subst hw
          rw[← hW]
          refine ih (i+1) S' v' _ (jA x y c) _ _ _ (by omega) (by omega) (ho.trans ho') hO' (by rw[zg,hl];rfl) ?_
          rw[GV,hl,hva,hvb,zy]
          have hcv:=jB x y c
          have e1:2 ^ i * ((x != y) != c).toNat+2 ^ i * 2 * (jA x y c).toNat=2 ^ i * x.toNat+2 ^ i * y.toNat+2 ^ i * c.toNat:=by
            rw[zu,← zp,hcv,zp,zp]
          omega
        cases x<;>cases y<;>cases c<;>(simp only[Ga,Gb,e17,e17',Ru,Qb,Qc,Qd,Qf,Qg,Qh,Qi,Qj,Qk,Qm,Qo,true_and,Qp,Qq,Qr,Qs,Qt,Qu,Qv,Qw,Qx,Qy,Rq,Rs,Rt,Ya,Yb,Ru,Rw,A1p,A1t];exact fin _ _ rfl)
      refine WC.loop' ?_
      by_cases q1:i<a.length
      · have d1:decide ((i:Int)<(a.length:Int))=true:=decide_eq_true (by omega)
        simp only[GY,GZ,Ga,Gb,Qa,Qb,Qc,Qd,Qf,Qg,Qh,Qi,Qj,Qk,Qm,Qo,true_and,Qr,Qs,Qt,Qv,Qw,Rb,Re,Ru,Rw,A1u,A1p,A1t,A1w]at rest
        simp only[GX,Ju,GY,GZ,Ga,Gb,AH Tryz.underlying124,Ry,d1,Ru,Qa,Qb,Qc,Qd,Qf,Qg,Qh,Qi,Qj,Qk,Qm,Qo,true_and,Qp,Qq,Qr,Qs,Qt,Qu,Qv,Qw,Qx,Qz,Rb,Rd,Re,Rt,Ya,Ru,Rw,Ry,A1s,A1w,A1u,A1p,A1t]
        exact rest
      · have d1:decide ((i:Int)<(a.length:Int))=false:=decide_eq_false (by omega)
        by_cases q2:i<b.length
        · have d2:decide ((i:Int)<(b.length:Int))=true:=decide_eq_true (by omega)
          simp only[GY,GZ,Ga,Gb,Qa,Qb,Qc,Qd,Qf,Qg,Qh,Qi,Qj,Qk,Qm,Qo,true_and,Qr,Qs,Qt,Qv,Qw,Rb,Re,Ru,Rw,A1u,A1p,A1t,A1w]at rest
          simp only[GX,Ju,GY,GZ,Ga,Gb,AH Tryz.underlying124,Ry,d1,d2,Ru,Qa,Qb,Qc,Qd,Qf,Qg,Qh,Qi,Qj,Qk,Qm,Qo,true_and,Qp,Qq,Qr,Qs,Qt,Qu,Qv,Qw,Qx,Qz,Rb,Rd,Re,Rt,Ya,Yb,Ru,Rw,Ry,A1s,A1w,A1u,A1p,A1t]
          exact rest
        · have d2 : decide ((i : Int) < (b.length : Int)) = false := decide_eq_false (by omega)
          have hc:c=true:=by
            cases c with
            | true=>rfl
            | false=>exact absurd ⟨by omega,by omega,rfl⟩ hstop
          subst hc
          simp only[GY,GZ,Ga,Gb,Qa,Qb,Qc,Qd,Qf,Qg,Qh,Qi,Qj,Qk,Qm,Qo,true_and,Qr,Qs,Qt,Qv,Qw,Rb,Re,Ru,Rw,A1u,A1p,A1t,A1w]at rest
          simp only[GX,Ju,GY,GZ,Ga,Gb,AH Tryz.underlying124,Ry,d1,d2,Ru,Qa,Qb,Qc,Qd,Qf,Qg,Qh,Qi,Qj,Qk,Qm,Qo,true_and,Qp,Qq,Qr,Qs,Qt,Qv,Qw,Qx,Qz,Rb,Rd,Re,Rt,Yb,Ru,Rw,Ry,A1s,A1w,A1u,A1p,A1t]
          exact rest
theorem kR(hE:GoodN E){va vb:AV}{a b:List Bool}(ha:Df s va a)(hb:Df s vb b)(hal:a.length≤100000000)(hbl:b.length≤100000000){K:AV→AE→Prop}(hK:∀s' w out,Aa s.next s s'→Df s' w out→out.length≤200000000→bv out=bv a+bv b→K w s'):WF E 145 [va,vb] K s:=by
 refine hE.go jf (by decide) rfl ?_
 simp only[wG,bD,bE,bF,bG,Qa,Qb,Qc,Qd,Qf,Qh,Qi,Qj,Ql,Qm,Qo,true_and,Qp,Qq,Qt,Qv,Rb,Rh,Rk,Rm,Rn,Yc,A1p]
 refine Xp hE ha hb hal hbl (fun S v out y4 y5 y6 y7 y8 ho hO hl hv=>?_) (max a.length b.length+1) 0 s _ [] false _ _ _ rfl (ze _) (Aa.refl _ _) (Fp.nil _ _) rfl rfl
 simp only[VW,if_true,Qb,Qc,Qd,Qf,Qh,Qj,Qm,Qo,true_and,Qp,Qq,Qr,Qs,Qt,Qv,Rb,Rd,Rg,Rj,A1p]
 exact hK S v out ho hO.rd hl hv
end
theorem se{a b t:List Bool}{i:Nat}{x y:Bool}(ha:i≤a.length)(hb:i≤b.length)(hda:a.drop i=x::t)(hdb:b.drop i=y::t)(hxy:x≠y):decide (bv a<bv b)=y:=by
  have h1:=Lp a i
  have h2:=Lp b i
  have h3:=Ej (a.take i)
  have h4:=Ej (b.take i)
  rw[zo,A0c ha]at h3
  rw[zo,A0c hb]at h4
  rw[hda,show bv (x::t)=x.toNat+2 * bv t from rfl,zp]at h1
  rw[hdb,show bv (y::t)=y.toNat+2 * bv t from rfl,zp]at h2
  generalize 2 ^ i * (2 * bv t)=z at h1 h2
  cases x<;>cases y
  · exact absurd rfl hxy
  · have e1 : 2 ^ i * (false).toNat = 0 := A0F          _
    have e2:2 ^ i * (true).toNat=2 ^ i:=zf _
    exact decide_eq_true (by omega)
  · have e1 : 2 ^ i * (false).toNat = 0 := A0F          _
    have e2:2 ^ i * (true).toNat=2 ^ i:=zf _
    exact decide_eq_false (by omega)
  · exact absurd rfl hxy
section
variable{E:CR}{s:AE}
theorem Ug{aa ab:Option (Nat×Nat)}{ca cb:Option Nat}{a b:List Bool}(hca:AS s.next s aa (G0 a))(hcb:AS s.next s ab (G0 b))(hab:a.length=b.length)(hl:a.length≤1000000000){Q:Az→Prop}{y2 y4:AV}
    (hq0:a=b→∀y3 y5 y6,Q ⟨.exit 0,[.slice aa a.length ca,.slice ab b.length cb,y2,y3,y4,y5,y6],[],s⟩)
    (hq1:∀y3 y5 y6,Q ⟨.ret,[.slice aa a.length ca,.slice ab b.length cb,.bool (decide (bv a<bv b)),y3,y4,y5,y6],[],s⟩):
    ∀ (i:Nat) (y5 y6:AV),i≤a.length→a.drop i=b.drop i→WC E none (.loop Hl) Q [.slice aa a.length ca,.slice ab b.length cb,y2,iv ((i:Int) - 1),y4,y5,y6] [] s:=by
  intro i
  induction i with
  | zero =>
    intro y5 y6 _ hd
    refine WC.loop' ?_
    simp only[Hl,PF,Wb,show decide ((((0:Nat):Int) - 1)≥0)=false from rfl,Qa,Qb,Qc,Qd,Qf,Qh,Qi,Qj,Qm,Qo,true_and,Qp,Qq,Qr,Qs,Qt,Qv,Ra,Rb,Rc,Rd,Re,Rf,Wb]
    exact hq0 (by simpa using hd) _ _ _
  | succ i ih =>
    intro y5 y6 hi hd
    have e0:(((i+1:Nat):Int) - 1)=(i:Int):=by omega
    rw[e0]
    have d0:decide ((i:Int)≥0)=true:=decide_eq_true (by omega)
    have es:=CT Tryz.prog 3 (i:Int) 1 ⟨by omega,by omega⟩
    have hxa:a[i]? = some (a[i]'(by omega)):=zW (by omega)
    have hxb:b[i]? = some (b[i]'(by omega)):=zW (by omega)
    generalize a[i]'(by omega)=x at hxa
    generalize b[i]'(by omega)=y at hxb
    obtain⟨ia,oa,rfl,_,lda⟩:=Df.load hca hxa
    obtain⟨ib,ob,rfl,_,ldb⟩:=Df.load hcb hxb
    have ixa:=AX (cap:=ca) (i:=ia) (o:=oa) (n:=1) (len:=a.length) (k:=i) Tryz.underlying124 TB (by omega)
    have ixb:=AX (cap:=cb) (i:=ib) (o:=ob) (n:=1) (len:=b.length) (k:=i) Tryz.underlying124 TB (by omega)
    have hne:AN Tryz.prog .neq 4 (.bool x) (.bool y)=some (.bool (x != y)):=Ep x y
    have hda:a.drop i=x::a.drop (i+1):=by
      have hlt:i<a.length:=by omega
      rw[A0M hlt]
      rw[zW hlt]at hxa
      injection hxa with hxa
      rw[hxa]
    have hdb:b.drop i=y::b.drop (i+1):=by
      have hlt:i<b.length:=by omega
      rw[A0M hlt]
      rw[zW hlt]at hxb
      injection hxb with hxb
      rw[hxb]
    refine WC.loop' ?_
    generalize hW:WC E none (Ac.loop Hl) Q=WW
    by_cases hxy:x=y
    · subst hxy
      simp only[Hl,PF,Tb,aR,Wb,d0,ixa,ixb,lda,ldb,hne,bne_self_eq_false,es,Qa,Qb,Qc,Qd,Qf,Qh,Qi,Qj,Qk,Qm,Qo,true_and,Qp,Qq,Qr,Qs,Qt,Qv,Qz,Ra,Rb,Rc,Rd,Re,Rf,Wb,A1v,A1m,A1x,A1t,A1p]
      rw[← hW]
      exact ih _ _ (by omega) (by rw[hda,hdb,hd])
    · have hb : (x != y) = true := by cases x <;> cases y <;> first | rfl | exact absurd rfl hxy
      have hlt:decide (bv a<bv b)=y:=se (by omega) (by omega) hda (by rw[hdb,hd]) hxy
      simp only[Hl,PF,Tb,aQ,Wb,d0,ixa,ixb,lda,ldb,hne,hb,Qa,Qb,Qc,Qd,Qf,Qh,Qi,Qj,Qk,Qm,Qo,true_and,Qp,Qq,Qr,Qs,Qt,Qv,Qz,Rb,Rc,Rd,Re,Rf,Wb,A1v,A1m,A1x,A1p]
      rw[← hlt]
      exact hq1 _ _ _
theorem JX(hE:GoodN E){va vb:AV}{a b:List Bool}(ha:Df s va a)(hb:Df s vb b)(hal:a.length≤1000000000)(hbl:b.length≤1000000000){K:AV→AE→Prop}(hK:K (.bool (decide (bv a<bv b))) s):WF E 139 [va,vb] K s:=by
  refine hE.go jc (by decide) rfl ?_
  simp only[wD,aL,aM,Qa,Qb,Qc,Qd,Qf,Qh,Qi,Qj,Qk,Ql,Qm,Qo,true_and,Qp,Qq,Qr,Qt,Qv,Rb,Rc,Rh,Rk,Rm,Rn,Yc,A1p,A1t,A1u]
  refine GM hE ha (by omega) fun wa hwa=>?_
  simp only[aN,Qb,Qc,Qd,Qf,Qh,Qj,Qk,Qm,Qo,true_and,Qp,Qr,Qs,Qt,Qv,A1t,A1u,A1p]
  refine GM hE hb (by omega) fun wb hwb=>?_
  have hla:=FR (Ej a)
  have hlb:=FR (Ej b)
  have hva:=BK (bv a)
  have hvb:=BK (bv b)
  have hga:=@Ot (bv a)
  have hgb:=@Ot (bv b)
  have ha2:=Ej (Av (bv a))
  have hb2:=Ej (Av (bv b))
  rw[hva]at ha2
  rw[hvb]at hb2
  rw[← hva,← hvb]at hK
  have hza:bv a=0→(Av (bv a)).length=0:=fun h=>by rw[h,CD];rfl
  have hzb:bv b=0→(Av (bv b)).length=0:=fun h=>by rw[h,CD];rfl
  have hlen:(Av (bv a)).length≠(Av (bv b)).length→decide (((Av (bv a)).length:Int)<((Av (bv b)).length:Int))=decide (bv (Av (bv a))<bv (Av (bv b))):=fun hne=>by
    rw[hva,hvb]
    rcases zX (Av (bv a)).length (Av (bv b)).length with h | h
    · rw[decide_eq_true (show((Av (bv a)).length:Int)<((Av (bv b)).length:Int) by omega)]
      have hb0:bv b≠0:=fun h0=>by have:=hzb h0;omega
      have h1:=hgb hb0
      have h2:2 ^ (Av (bv a)).length≤2 ^ ((Av (bv b)).length - 1):=A0K (by decide) (by omega)
      exact(decide_eq_true (by omega)).symm
    · rw[decide_eq_false (show ¬ ((Av (bv a)).length:Int)<((Av (bv b)).length:Int) by omega)]
      have ha0:bv a≠0:=fun h0=>by have:=hza h0;omega
      have h1:=hga ha0
      have h2:2 ^ (Av (bv b)).length≤2 ^ ((Av (bv a)).length - 1):=A0K (by decide) (by omega)
      exact(decide_eq_false (by omega)).symm
  clear hga hgb ha2 hb2 hza hzb hva hvb
  generalize Av (bv a)=a' at *
  generalize Av (bv b)=b' at *
  obtain⟨aa,ca,rfl,_,hca⟩:=hwa
  obtain⟨ab,cb,rfl,_,hcb⟩:=hwb
  by_cases hab:a'.length=b'.length
  · have dne : decide ((a'.length : Int) ≠ (b'.length : Int)) = false := decide_eq_false (by omega)
    have es:=CT Tryz.prog 3 (a'.length:Int) 1 ⟨by omega,by omega⟩
    simp only[Ta,aP,AH Tryz.underlying124,Wd,dne,es,Qb,Qc,Qd,Qf,Qh,Qi,Qj,Qk,Qm,Qo,true_and,Qp,Qq,Qr,Qs,Qt,Qv,Ra,Wd,A1s,A1x,A1p]
    refine Ug hca hcb hab (by omega) (fun e y3 y5 y6=>?_) (fun y3 y5 y6=>?_) a'.length _ _ (zU _) (by rw[A0D (zU _),A0D (by omega)])
    · subst e
      simp only[VT,if_true,Qb,Qc,Qd,Qf,Qh,Qi,Qm,Qo,true_and,Qp,Qq,Qr,Qs,Qt,Qv,Rb,Rd,Rg,Rj,A1p]
      rw[show decide (bv a'<bv a')=false from decide_eq_false (Nat.lt_irrefl _)]at hK
      exact hK
    · simp only[Qj,Qm,Qr,Qs,Rc,Rf,Rh,Rj,Rk,Rm,Rn,Yc]
      exact hK
  · have dne:decide ((a'.length:Int)≠(b'.length:Int))=true:=decide_eq_true (by omega)
    simp only[Ta,aO,AH Tryz.underlying124,Wd,dne,Ry,Qb,Qc,Qd,Qf,Qh,Qj,Qk,Qm,Qo,true_and,Qp,Qq,Qr,Qs,Qt,Qv,Qz,Rj,Ry,Wd,A1s,A1x,A1w,A1p]
    rw[hlen hab]
    exact hK
theorem Xv        (hE : GoodN E) {s0 : AE}  {va vb : AV} {a b : List Bool} (ha : Df  s0 va a) (hb : Df  s0 vb b) (hal : a.length ≤ 1000000000) {Q : Az   → Prop} {y2 : AV}
    (hq:∀S v out c y5 y6 y7 y8,Aa s0.next s0 S→Fp s0.next S v out→out.length=a.length→bv out+bv (b.take a.length)=bv a+2 ^ a.length * Bool.toNat c→Q ⟨.exit 0,[va,vb,y2,v,.bool c,y5,y6,y7,y8],[],S⟩):
    ∀ (r i:Nat) (S:AE) (v:AV) (out:List Bool) (c:Bool) (y6 y7 y8:AV),a.length - i=r→i≤a.length→Aa s0.next s0 S→Fp s0.next S v out→out.length=i→bv out+bv (b.take i)=bv (a.take i)+2 ^ i * c.toNat→WC E none (.loop Lu) Q [va,vb,y2,v,.bool c,iv (i:Int),y6,y7,y8] [] S:=by
  obtain⟨aa,ca,rfl,hca,hcca⟩:=ha
  obtain⟨ab,cb,rfl,hcb,hccb⟩:=hb
  intro r
  induction r with
  | zero =>
    intro i S v out c y6 y7 y8 hr hi ho hO hl hv
    have d1:decide ((i:Int)<(a.length:Int))=false:=decide_eq_false (by omega)
    have e:i=a.length:=by omega
    refine WC.loop' ?_
    simp only[Lu,Tc,AH Tryz.underlying124,Ry,d1,Qa,Qb,Qc,Qd,Qf,Qh,Qj,Qk,Qm,Qo,true_and,Qp,Qq,Qr,Qs,Qt,Qv,Ra,Rb,Rd,Re,Ry,A1s,A1x]
    refine hq S v out c _ _ _ _ ho hO (by omega) ?_
    rw[e,A0V (zU a.length)]at hv
    exact hv
  | succ r ih =>
    intro i S v out c y6 y7 y8 hr hi ho hO hl hv
    have hlt:i<a.length:=by omega
    have d1:decide ((i:Int)<(a.length:Int))=true:=decide_eq_true (by omega)
    have e17:=Ax Tryz.prog 3 (i:Int) 1 ⟨by omega,by omega⟩
    have e17':((i:Int)+1)=((i+1:Nat):Int):=by omega
    have hbb:Df S (.slice ab b.length cb) b:=Df.old ⟨ab,cb,rfl,hcb,hccb⟩ ho
    have hx:a[i]? = some a[i]:=zW hlt
    have hva:=DY hx
    generalize a[i]=x at hx hva
    obtain⟨ia,oa,rfl,hia,lda0⟩:=Df.load hcca hx
    have lda:=Ci Gz ho hia lda0
    have ixa:=AX (cap:=ca) (i:=ia) (o:=oa) (n:=1) Tryz.underlying124 TB hlt
    refine WC.loop' ?_
    generalize hW:WC E none (Ac.loop Lu) Q=WW
    simp only[Lu,Tc,ai,AH Tryz.underlying124,Ry,d1,ixa,lda,Qa,Qb,Qc,Qd,Qf,Qh,Qj,Qk,Qm,Qo,true_and,Qp,Qq,Qr,Qs,Qt,Qv,Qz,Rb,Rd,Re,Ry,A1s,A1x,A1v,A1m,A1p]
    refine Pq hE hbb ?_
    refine⟨⟨Au (by simp only[Qk,Qr,Qs];exact lda) (by simp only[Qk,Qr,Qs];exact El _),trivial⟩,?_⟩
    have hvb:=GW b i
    generalize b.getD i false=y at hvb ⊢
    obtain⟨v',S',happ,hO',ho'⟩:=hO.push ho.1 (by omega) ((x != y) != c)
    have hn1:AN Tryz.prog .neq 4 (.bool x) (.bool y)=some (.bool (x != y)):=Ep x y
    have hn2:AN Tryz.prog .neq 4 (.bool (x != y)) (.bool c)=some (.bool ((x != y) != c)):=Ep _ _
    simp only[aj,hn1,hn2,M6,Xe,happ,Qb,Qc,Qd,Qf,Qh,Qj,Qk,Qm,Qo,true_and,Qp,Qq,Qr,Qs,Qt,Qv,Yc,A1t,A1w,A1p]
    have fin:∀ (w:AV) (y8:AV),w=.bool (ij x y c)→WW [.slice (some (ia,oa)) a.length ca,.slice ab b.length cb,y2,v',w,iv ((i+1:Nat):Int),.bool x,.bool y,y8] [] S':=fun w y8 hw=>by
      subst hw
      rw[← hW]
      refine ih (i+1) S' v' _ (ij x y c) _ _ _ (by omega) (by omega) (ho.trans ho') hO' (by rw[zg,hl];rfl) ?_
      rw[GV,hl,hva,hvb,zy]
      have hcv:=ik x y c
      have e1:2 ^ i * ((x != y) != c).toNat+2 ^ i * y.toNat+2 ^ i * c.toNat=2 ^ i * x.toNat+2 ^ i * 2 * (ij x y c).toNat:=by
        rw[← zp,← zp,hcv,zp,zu]
      omega
    cases x<;>cases y<;>cases c<;>(simp only[ak,ao,e17,e17',Ru,We,Bool.not_true,Bool.not_false,Qb,Qc,Qd,Qf,Qg,Qh,Qi,Qj,Qk,Qm,Qo,true_and,Qp,Qq,Qr,Qs,Qt,Qu,Qv,Qw,Qx,Qy,Rq,Rs,Rt,Ya,Yb,Ru,Rw,We,A1p,A1t];exact fin _ _ rfl)
theorem Sf(hE:GoodN E){va vb:AV}{a b:List Bool}(ha:Df s va a)(hb:Df s vb b)(hal:a.length≤1000000000)(hle:bv b≤bv a){K:AV→AE→Prop}(hK:∀s' w,Aa s.next s s'→Df s' w (Av (bv a - bv b))→(∀j,B6 w=some j→s.next≤j)→K w s'):WF E 140 [va,vb] K s:=by
 refine hE.go jd (by decide) rfl ?_
 simp only[wE,aZ,ae,af,ah,Qa,Qb,Qc,Qd,Qf,Qh,Qi,Qj,Ql,Qm,Qo,true_and,Qp,Qq,Qt,Qv,Rb,Rh,Rk,Rm,Rn,Yc,A1p]
 refine Xv hE ha hb hal (fun S v out c y5 y6 y7 y8 ho hO hl hv=>?_) a.length 0 s _ [] false _ _ _ rfl (ze _) (Aa.refl _ _) (Fp.nil _ _) rfl rfl
 simp only[VV,if_true,Qb,Qc,Qd,Qf,Qh,Qj,Qk,Qm,Qo,true_and,Qr,Qs,Qt,Qv,Rb,Rd,Rg,Rj,A1u,A1p]
 refine KQ hE hO.rd (by omega) fun w hw hsl=>?_
 simp only[Qd,Qo,true_and,Qp,Qq,Qr,Qs]
 have h1:=Lp b a.length
 have h2:=Ej a
 have h3:=Ej out
 rw[hl]at h3
 have h4:bv (b.drop a.length)=0:=by
  rcases A0R (bv (b.drop a.length))with h | h
  ·exact h
  ·have:2 ^ a.length * 1≤2 ^ a.length * bv (b.drop a.length):=A0P _ h
   omega
 rw[h4,A0F]at h1
 have h5:bv out=bv a - bv b:=by
  cases c with
  | false=>have:2 ^ a.length * (false).toNat=0:=A0F _;omega
  | true=>have:2 ^ a.length * (true).toNat=2 ^ a.length:=zf _;omega
 rw[h5]at hw
 exact hK S w ho hw fun j hj=>by
  obtain⟨O,h1',h2'⟩:=hO
  exact h2' j (h1'.slotO (hsl j hj))
theorem kW(hE:GoodN E){va vb:AV}{a b:List Bool}(ha:Df s va a)(hb:Df s vb b)(hal:a.length≤1000000000)(hle:bv b≤bv a){K:AV→AE→Prop}(hK:∀s' w,Aa s.next s s'→Df s' w (Av (bv a - bv b))→K w s'):WF E 140 [va,vb] K s:=
 Sf hE ha hb hal hle fun s' w o h _=>hK s' w o h
end
def Nt:List Nat→Nat
 | []=>0
 | x::l=>x+2 * Nt l
def ns(l:List Nat):List AV:=l.map fun(n:Nat)=>iv (n:Int)
theorem uj(l:List Nat):(ns l).length=l.length:=by simp[ns]
theorem gL{l:List Nat}{k x:Nat}(h:l[k]? = some x):(ns l)[k]? = some (iv (x:Int)):=by simp[ns,h]
theorem uk(l:List Nat)(k x:Nat):(ns l).set k (iv (x:Int))=ns (l.set k x):=by simp[ns,List.map_set]
theorem ep:∀ {l:List Nat}{k x:Nat},l[k]? = some x→Nt (l.set k (x+1))=Nt l+2 ^ k
 | y::l,0,x,h=>by
  injection h with h
  subst h
  show y+1+2 * Nt l=y+2 * Nt l+1
  omega
 | y::l,k+1,x,h=>by
  show y+2 * Nt (l.set k (x+1))=y+2 * Nt l+2 ^ (k+1)
  rw[ep (l:=l) (k:=k) h,zy];omega
theorem uU(n:Nat):Nt (List.replicate n 0)=0:=by
 induction n with
 | zero=>rfl
 | succ n ih=>show 0+2 * Nt (List.replicate n 0)=0;rw[ih]
theorem Vs:∀ {l:List Nat}{k x:Nat},l[k]? = some x→Nt (l.take (k+1))=Nt (l.take k)+2 ^ k * x
 | y::l,0,x,h=>by
  injection h with h
  subst h
  show y+2 * 0=0+1 * y
  omega
 | y::l,k+1,x,h=>by
  show y+2 * Nt (l.take (k+1))=y+2 * Nt (l.take k)+2 ^ (k+1) * x
  rw[Vs (l:=l) (k:=k) h,zp,zy,← zu,zt 2 (2 ^ k)];omega
theorem ur(n:Nat):Nd [AV.int .i64 0] n=ns (List.replicate n 0):=by
  induction n with
  | zero=>rfl
  | succ n ih =>
    show [AV.int .i64 0]++Nd [AV.int .i64 0] n=iv ((0:Nat):Int)::ns (List.replicate n 0)
    rw[ih];rfl
theorem XV(n:Nat)(h:n≤100000000000):Bb Tryz.prog 27 (iv (n:Int)) (iv (n:Int))=some (R 3 1 false (ns (List.replicate n 0)),.slice n):=by
 have e:Bb Tryz.prog 27 (.int .i64 (.ofNat n)) (.int .i64 (.ofNat n))=some (GH 3 1 (Nd [AV.int .i64 0] n),.slice n):=by
  simp[Bb,Tryz.underlying27,xQ,Jm,zr3,AQ,CU (show 8 * n≤1099511627776 by omega),CU (show n≤1099511627776 by omega),AV.cells]
 rw[ur]at e
 exact e
theorem YW(P:Program)(t:TypeId)(a b:Nat)(hb:b≠0)(ha:a≤4000000000000000000):AN P .quo t (iv (a:Int)) (.int .i64 (b:Int))=some (iv ((a / b:Nat):Int)):=by
 show(DM P (Op.intDiv .quo .i64 (a:Int) (b:Int))).bind ofValue=_
 have hb':¬ ((b:Int)=0):=by omega
 unfold Op.intDiv
 rw[if_neg hb']
 show some (AV.int .i64 (IntKind.wrap .i64 ((a:Int).tdiv (b:Int))))=_
 rw[show(a:Int).tdiv (b:Int)=((a / b:Nat):Int)from rfl,← Fd,Jk]
 have:a / b≤a:=A0Y a b
 generalize a / b=q at this ⊢
 exact⟨by omega,by omega⟩
section
variable{E:CR}{s:AE}
theorem kS      {q N V B i : Nat} {aa ab : Option (Nat × Nat)} {ca cb : Option Nat} {a b : List Bool} (hca : AS      q s aa (G0  a)) (hcb : AS      q s ab (G0  b)) {x : Bool} (hx : a[i]? = some x) (hN : N = a.length + b.length) (hNl : N ≤ 400000000) (hB : B + b.length ≤ 1000000000000000000) {Q : Az   → Prop} {y2 y6 y7 y8 y9 y12 : AV}
    (hq:∀S n y5 y10 y11,IY s S q→Ck S q (ns n) none→n.length=N→Nt n=V+2 ^ i * (x.toNat * bv b)→(∀y∈n,y≤B+b.length)→Q ⟨.exit 2,[.slice aa a.length ca,.slice ab b.length cb,y2,.slice (some (q,0)) N (some N),iv (i:Int),y5,y6,y7,y8,y9,y10,y11,y12],[],S⟩):
    ∀ (r k:Nat) (S:AE) (n:List Nat) (y10 y11:AV),b.length - k=r→k≤b.length→(x=false→k=0)→IY s S q→Ck S q (ns n) none→n.length=N→Nt n=V+2 ^ i * (x.toNat * bv (b.take k))→(∀y∈n,y≤B+k)→WC E none (.loop HD) Q [.slice aa a.length ca,.slice ab b.length cb,y2,.slice (some (q,0)) N (some N),iv (i:Int),iv (k:Int),y6,y7,y8,y9,y10,y11,y12] [] S:=by
  have hil:i<a.length:=by
    rcases zX i a.length with h' | h'
    · exact h'
    · rw[zj h']at hx;cases hx
  have ldx:∀ (S:AE),IY s S q→∃ia oa,aa=some (ia,oa)∧AB Tryz.prog S 4 (.ptr (some (ia,oa+i * 1)))=some (.bool x):=fun S ho=>by
    obtain⟨ia,oa,e,h1,h2⟩:=hca i _ (LF hx)
    exact⟨ia,oa,e,Bq Gz (by rw[zf,CS (ho.get ia (by omega))];exact h2)⟩
  intro r
  induction r with
  | zero =>
    intro k S n y10 y11 hr hk hxk ho hown hn hv hbd
    have ek:k=b.length:=by omega
    obtain⟨ia,oa,rfl,lda⟩:=ldx S ho
    have ixa:=AX (cap:=ca) (i:=ia) (o:=oa) (n:=1) Tryz.underlying124 TB hil
    have d1:decide ((k:Int)<(b.length:Int))=false:=decide_eq_false (by omega)
    have hv':Nt n=V+2 ^ i * (x.toNat * bv b):=by rw[hv,ek,A0V (zU _)]
    refine WC.loop' ?_
    cases x with
    | true =>
      simp only[HD,Jr,ixa,lda,AH Tryz.underlying124,Ry,d1,Ru,Qa,Qb,Qc,Qd,Qf,Qg,Qh,Qi,Qj,Qk,Qm,Qo,true_and,Qp,Qq,Qr,Qs,Qt,Qv,Qw,Qx,Ra,Rb,Rd,Re,Rs,Ru,Rw,Ry,A1v,A1m]
      exact hq S n _ _ _ ho hown hn hv' (fun y hy=>by have:=hbd y hy;omega)
    | false =>
      simp only[HD,Jr,ixa,lda,Ru,Qa,Qb,Qc,Qd,Qf,Qg,Qh,Qi,Qj,Qk,Qm,Qo,true_and,Qp,Qq,Qr,Qs,Qt,Qu,Qv,Qw,Qx,Ra,Rb,Rd,Re,Rs,Ru,Rw,A1v,A1m]
      exact hq S n _ _ _ ho hown hn hv' (fun y hy=>by have:=hbd y hy;omega)
  | succ r ih =>
    intro k S n y10 y11 hr hk hxk ho hown hn hv hbd
    have hlt:k<b.length:=by omega
    obtain⟨ia,oa,rfl,lda⟩:=ldx S ho
    have ixa:=AX (cap:=ca) (i:=ia) (o:=oa) (n:=1) Tryz.underlying124 TB hil
    have d1:decide ((k:Int)<(b.length:Int))=true:=decide_eq_true (by omega)
    have e17:=Ax Tryz.prog 3 (k:Int) 1 ⟨by omega,by omega⟩
    have e17':((k:Int)+1)=((k+1:Nat):Int):=by omega
    cases x with
    | false =>
      refine WC.loop' ?_
      simp only[HD,Jr,ixa,lda,Ru,Qa,Qb,Qc,Qd,Qf,Qg,Qh,Qi,Qj,Qk,Qm,Qo,true_and,Qp,Qq,Qr,Qs,Qt,Qu,Qv,Qw,Qx,Ra,Rb,Rd,Re,Rs,Ru,Rw,A1v,A1m]
      refine hq S n _ _ _ ho hown hn ?_ (fun y hy=>by have:=hbd y hy;omega)
      rw[hv]
      show _+2 ^ i * (0 * _)=_+2 ^ i * (0 * _)
      rw[A0b,A0b]
    | true =>
      have hxb:b[k]? = some b[k]:=zW hlt
      have hvb:=DY hxb
      generalize b[k]=z at hxb hvb
      obtain⟨ib,ob,rfl,hib,gb⟩:=hcb k _ (LF hxb)
      have ldb:AB Tryz.prog S 4 (.ptr (some (ib,ob+k * 1)))=some (.bool z):=Bq Gz (by rw[zf,CS (ho.get ib (by omega))];exact gb)
      have ixb:=AX (cap:=cb) (i:=ib) (o:=ob) (n:=1) Tryz.underlying124 TB hlt
      refine WC.loop' ?_
      generalize hW:WC E none (Ac.loop HD) Q=WW
      cases z with
      | false =>
        simp only[HD,Jr,TO,TP,ixa,lda,ixb,ldb,AH Tryz.underlying124,Ry,d1,Ru,e17,e17',Qa,Qb,Qc,Qd,Qf,Qg,Qh,Qi,Qj,Qk,Qm,Qo,true_and,Qp,Qq,Qr,Qs,Qt,Qv,Qw,Qx,Qz,Ra,Rb,Rd,Re,Rs,Ru,Rw,Ry,A1v,A1m,A1t,A1p]
        rw[← hW]
        refine ih (k+1) S n _ _ (by omega) (by omega) (fun h=>by cases h) ho hown hn ?_ (fun y hy=>by have:=hbd y hy;omega)
        rw[hv,hvb,show 2 ^ k * (false).toNat=0 from A0F _,zv]
      | true =>
        have hik:i+k<n.length:=by omega
        have hnk:n[i+k]? = some n[i+k]:=zW hik
        have hle:=hbd n[i+k] (A0x hik)
        generalize n[i+k]=w at hnk hle
        have eik:=Ax Tryz.prog 3 (i:Int) (k:Int) ⟨by omega,by omega⟩
        have eik':((i:Int)+(k:Int))=((i+k:Nat):Int):=by omega
        have ixn:=AX (cap:=some N) (i:=q) (o:=0) (n:=1) (len:=N) (k:=i+k) Tryz.underlying27 Jm (by omega)
        have ldn:AB Tryz.prog S 3 (.ptr (some (q,0+(i+k) * 1)))=some (iv (w:Int)):=HS lH hown (by rw[zf,zk];exact gL hnk)
        have einc:=Ax Tryz.prog 3 (w:Int) 1 ⟨by omega,by omega⟩
        have einc':((w:Int)+1)=((w+1:Nat):Int):=by omega
        obtain⟨S',e1,e2,e3,e4⟩:=Ec (P:=Tryz.prog) (t:=3) (o:=0+(i+k) * 1) (v:=iv ((w+1:Nat):Int)) Jm hown (by rw[uj];omega) rfl
        rw[show 0+(i+k) * 1=i+k by omega,uk]at e2
        simp only[HD,Jr,TO,Yy,TP,ixa,lda,ixb,ldb,AH Tryz.underlying124,Ry,d1,Ru,eik,eik',ixn,ldn,einc,einc',e1,e17,e17',Xy,Za,Qa,Qb,Qc,Qd,Qf,Qg,Qh,Qi,Qj,Qk,Qm,Qo,true_and,Qp,Qq,Qr,Qs,Qt,Qv,Qw,Qx,Qz,Rb,Rd,Re,Rs,Ru,Rw,Ry,A1v,A1m,A1w,A1o,A1t,A1p]
        rw[← hW]
        refine ih (k+1) S' _ _ _ (by omega) (by omega) (fun h=>by cases h) ⟨by rw[e3];exact ho.next,fun j hj=>by rw[e4 j hj (by simp),ho.get j hj]⟩ e2 (by rw[A0j];exact hn) ?_ fun y hy=>?_
        · rw[ep hnk,hv,hvb,show 2 ^ k * (true).toNat=2 ^ k from zf _,zp,zp,← A0H,A1G,show(true).toNat * 2 ^ k=2 ^ k from A0S _]
        · rcases List.mem_or_eq_of_mem_set hy with h | h
          · have:=hbd y h;omega
          · omega
theorem gj{q N:Nat}{aa ab:Option (Nat×Nat)}{ca cb:Option Nat}{a b:List Bool}(hca:AS q s aa (G0 a))(hcb:AS q s ab (G0 b))(hN:N=a.length+b.length)(hNl:N≤400000000){Q:Az→Prop}{y2 y6 y7 y8 y12:AV}
  (hq:∀S n y4 y5 y9 y10 y11,IY s S q→Ck S q (ns n) none→n.length=N→Nt n=bv a * bv b→(∀y∈n,y≤a.length * b.length)→Q ⟨.exit 0,[.slice aa a.length ca,.slice ab b.length cb,y2,.slice (some (q,0)) N (some N),y4,y5,y6,y7,y8,y9,y10,y11,y12],[],S⟩):
  ∀ (r i:Nat) (S:AE) (n:List Nat) (y5 y9 y10 y11:AV),a.length - i=r→i≤a.length→IY s S q→Ck S q (ns n) none→n.length=N→Nt n=bv (a.take i) * bv b→(∀y∈n,y≤i * b.length)→WC E none (.loop I4) Q [.slice aa a.length ca,.slice ab b.length cb,y2,.slice (some (q,0)) N (some N),iv (i:Int),y5,y6,y7,y8,y9,y10,y11,y12] [] S:=by
 have hab:a.length * b.length≤400000000 * 400000000:=A0W (by omega) (by omega)
 intro r
 induction r with
 | zero =>
  intro i S n y5 y9 y10 y11 hr hi ho hown hn hv hbd
  have e:i=a.length:=by omega
  have d1:decide ((i:Int)<(a.length:Int))=false:=decide_eq_false (by omega)
  refine WC.loop' ?_
  simp only[I4,TN,AH Tryz.underlying124,Ry,d1,Qa,Qb,Qc,Qd,Qf,Qh,Qj,Qk,Qm,Qo,true_and,Qp,Qq,Qr,Qs,Qt,Qv,Ra,Rb,Rd,Ry,A1s,A1x]
  refine hq S n _ _ _ _ _ ho hown hn (by rw[hv,e,A0V (zU _)]) (by rw[← e];exact hbd)
 | succ r ih =>
  intro i S n y5 y9 y10 y11 hr hi ho hown hn hv hbd
  have hlt:i<a.length:=by omega
  have d1:decide ((i:Int)<(a.length:Int))=true:=decide_eq_true (by omega)
  have e17:=Ax Tryz.prog 3 (i:Int) 1 ⟨by omega,by omega⟩
  have e17':((i:Int)+1)=((i+1:Nat):Int):=by omega
  have hx:a[i]? = some a[i]:=zW hlt
  have hva:=DY hx
  have hib:i * b.length≤a.length * b.length:=zq _ (by omega)
  refine WC.loop' ?_
  generalize hW:WC E none (Ac.loop I4) Q=WW
  simp only[I4,TN,Yx,AH Tryz.underlying124,Ry,d1,Qa,Qb,Qc,Qd,Qf,Qh,Qi,Qj,Qk,Qm,Qo,true_and,Qp,Qq,Qr,Qs,Qt,Qv,Qz,Rb,Rd,Ry,A1s,A1x,A1p]
  refine kS (s:=s) (V:=bv (a.take i) * bv b) (B:=i * b.length) hca hcb hx hN hNl (by omega) (fun S' n' y5' y10' y11' ho' hown' hn' hv' hbd'=>?_) b.length 0 S n _ _ rfl (ze _) (fun _=>rfl) ho hown hn (by rw[hv,A0l];show _=_+2 ^ i * (_ * 0);rw[A0F,A0F,zv]) (fun y hy=>by have:=hbd y hy;omega)
  simp only[VH,if_true,e17,e17',Qb,Qc,Qd,Qf,Qh,Qi,Qj,Qk,Qm,Qo,true_and,Qp,Qq,Qr,Qs,Qt,Qv,Rb,Rd,Re,Rg,A1t,A1p]
  rw[← hW]
  refine ih (i+1) S' n' _ _ _ _ (by omega) (by omega) ho' hown' hn' ?_ (fun y hy=>by have:=hbd' y hy;rw[zz];exact this)
  rw[hv',hva,A0A,zu]
theorem gi{s0:AE}{q N B:Nat}{n:List Nat}(hown:Ck s0 q (ns n) none)(hq0:q<s0.next)(hn:n.length=N)(hNl:N≤400000000)(hB:∀y∈n,y≤B)(hBl:B≤100000000000000000){Q:Az→Prop}{y0 y1 y2 y4 y5 y9 y10 y11:AV}
  (hq:∀S v out (c:Nat) y7 y8 y12,Aa s0.next s0 S→Fp s0.next S v out→out.length=N→bv out+2 ^ N * c=Nt n→Q ⟨.exit 4,[y0,y1,y2,.slice (some (q,0)) N (some N),y4,y5,v,y7,y8,y9,y10,y11,y12],[],S⟩):
  ∀ (r i:Nat) (S:AE) (v:AV) (out:List Bool) (c:Nat) (y12:AV),N - i=r→i≤N→Aa s0.next s0 S→Fp s0.next S v out→out.length=i→c≤B→bv out+2 ^ i * c=Nt (n.take i)→WC E none (.loop I5) Q [y0,y1,y2,.slice (some (q,0)) N (some N),y4,y5,v,iv (c:Int),iv (i:Int),y9,y10,y11,y12] [] S:=by
 intro r
 induction r with
 | zero =>
  intro i S v out c y12 hr hi ho hO hl hc hv
  have e:i=N:=by omega
  have d1:decide ((i:Int)<(N:Int))=false:=decide_eq_false (by omega)
  refine WC.loop' ?_
  simp only[I5,PB,AH Tryz.underlying27,Ry,d1,Qa,Qb,Qc,Qd,Qf,Qh,Qj,Qk,Qm,Qo,true_and,Qp,Qq,Qr,Qs,Qt,Qv,Ra,Rb,Rd,Re,Ry,A1s,A1x]
  refine hq S v out c _ _ _ ho hO (by omega) ?_
  rw[e,A0V (by omega)]at hv
  exact hv
 | succ r ih =>
  intro i S v out c y12 hr hi ho hO hl hc hv
  have hlt:i<n.length:=by omega
  have d1:decide ((i:Int)<(N:Int))=true:=decide_eq_true (by omega)
  have e17:=Ax Tryz.prog 3 (i:Int) 1 ⟨by omega,by omega⟩
  have e17':((i:Int)+1)=((i+1:Nat):Int):=by omega
  have hx:n[i]? = some n[i]:=zW hlt
  have hxb:=hB n[i] (A0x hlt)
  have hct:=Vs hx
  generalize n[i]=w at hx hxb hct
  have ixn:=AX (cap:=some N) (i:=q) (o:=0) (n:=1) (len:=N) (k:=i) Tryz.underlying27 Jm (by omega)
  have ld:AB Tryz.prog S 3 (.ptr (some (q,0+i * 1)))=some (iv (w:Int)):=HS lH (hown.keep (ho.2 q hq0)) (by rw[zf,zk];exact gL hx)
  have ecw:=Ax Tryz.prog 3 (c:Int) (w:Int) ⟨by omega,by omega⟩
  have ecw':((c:Int)+(w:Int))=((c+w:Nat):Int):=by omega
  have erem:AN Tryz.prog .rem 3 (iv ((c+w:Nat):Int)) (.int .i64 2)=some (iv (((c+w) % 2:Nat):Int)):=QW _ _ (c+w) 2 (by decide)
  have equo:AN Tryz.prog .quo 3 (iv ((c+w:Nat):Int)) (.int .i64 2)=some (iv (((c+w) / 2:Nat):Int)):=YW _ _ (c+w) 2 (by decide) (by omega)
  have dm:decide ((((c+w) % 2:Nat):Int)=1)=decide ((c+w) % 2=1):=by
   by_cases h:(c+w) % 2=1
   ·rw[decide_eq_true h,decide_eq_true (by omega)]
   ·rw[decide_eq_false h,decide_eq_false (by omega)]
  obtain⟨v',S',happ,hO',ho'⟩:=hO.push ho.1 (by omega) (decide ((c+w) % 2=1))
  refine WC.loop' ?_
  generalize hW:WC E none (Ac.loop I5) Q=WW
  simp only[I5,PB,VL,VM,VN,VO,AH Tryz.underlying27,Ry,Wc,d1,ixn,ld,ecw,ecw',erem,dm,M6,Xe,happ,equo,e17,e17',Qa,Qb,Qc,Qd,Qf,Qh,Qi,Qj,Qk,Qm,Qo,true_and,Qp,Qq,Qr,Qs,Qt,Qv,Qz,Rb,Rd,Re,Yc,Ry,Wc,A1s,A1x,A1t,A1v,A1m,A1w,A1p]
  rw[← hW]
  refine ih (i+1) S' v' _ _ _ (by omega) (by omega) (ho.trans ho') hO' (by rw[zg,hl];rfl) (by omega) ?_
  rw[GV,hl,KX,hct,← hv,zy,zu,A0H,← zp,show(c+w) % 2+2 * ((c+w) / 2)=c+w by omega,zp,A0H]
theorem kT(hE:GoodN E){va vb:AV}{a b:List Bool}(ha:Df s va a)(hb:Df s vb b)(hal:a.length≤100000000)(hbl:b.length≤100000000){K:AV→AE→Prop}(hK:∀s' w,Aa s.next s s'→Df s' w (Av (bv a * bv b))→K w s'):WF E 103 [va,vb] K s:=by
 obtain⟨aa,ca,rfl,_,hca⟩:=ha
 obtain⟨ab,cb,rfl,_,hcb⟩:=hb
 refine hE.go jG (by decide) rfl ?_
 have esum:=Ax Tryz.prog 3 (a.length:Int) (b.length:Int) ⟨by omega,by omega⟩
 have esum':((a.length:Int)+(b.length:Int))=((a.length+b.length:Nat):Int):=by omega
 have hmk:=XV (a.length+b.length) (by omega)
 obtain⟨n1,o1,g1⟩:=Bs s (R 3 1 false (ns (List.replicate (a.length+b.length) 0)))
 have hown:Ck (newObj s (R 3 1 false (ns (List.replicate (a.length+b.length) 0)))) s.next (ns (List.replicate (a.length+b.length) 0)) none:=Ck.of_R g1
 simp only[vO,Yu,Yv,Yw,AH Tryz.underlying124,esum,esum',Xy,hmk,Xe,Qa,Qb,Qc,Qd,Qf,Qh,Qi,Qj,Qk,Ql,Qm,Qo,true_and,Qp,Qq,Qr,Qs,Qt,Qv,Rb,Rh,Rk,Rm,Rn,Yc,A1p,A1s,A1w]
 generalize newObj s (R 3 1 false (ns (List.replicate (a.length+b.length) 0)))=s1 at *
 refine gj (s:=s1) (q:=s.next) (hca.old o1 (zU _)) (hcb.old o1 (zU _)) rfl (by omega) (fun S n y4 y5 y9 y10 y11 hon hown' hn hv hbd=>?_) a.length 0 s1 _ _ _ _ _ rfl (ze _) ⟨rfl,fun _ _=>rfl⟩ hown (by simp) (by rw[uU,A0l];exact(A0b _).symm) (fun y hy=>by rw[List.eq_of_mem_replicate hy];exact ze _)
 have hnx:=hon.next
 have hab:a.length * b.length≤100000000 * 100000000:=A0W hal hbl
 simp only[VI,VJ,VK,if_true,Qb,Qc,Qd,Qf,Qh,Qi,Qm,Qo,true_and,Qp,Qq,Qt,Qv,Rb,Rd,Rg,A1p]
 refine gi (s0:=S) hown' (by omega) hn (by omega) hbd (by omega) (fun S2 v out c y7 y8 y12 ho hO hl hv2=>?_) (a.length+b.length) 0 S _ [] 0 _ rfl (ze _) (Aa.refl _ _) (Fp.nil _ _) rfl (ze _) rfl
 simp only[VP,if_true,Qb,Qc,Qd,Qf,Qh,Qj,Qk,Qm,Qo,true_and,Qr,Qs,Qt,Qv,Rb,Rd,Rg,Rj,A1u,A1p]
 refine GM hE hO.rd (by omega) fun w hw=>?_
 simp only[Qd,Qo,true_and,Qp,Qq,Qr,Qs]
 have h1:=Ej a
 have h2:=Ej b
 have hpr:bv a * bv b<2 ^ (a.length+b.length):=by
  rw[A1G]
  exact Nat.mul_lt_mul'' h1 h2
 have hc0:c=0:=by
  rcases A0R c with h | h
  ·exact h
  ·have:2 ^ (a.length+b.length) * 1≤2 ^ (a.length+b.length) * c:=A0P _ h
   omega
 rw[hc0,A0F,zv,hv]at hv2
 rw[hv2]at hw
 refine hK S2 w ⟨by have:=ho.1;omega,fun j hj=>?_⟩ hw
 rw[ho.2 j (by omega),hon.get j (by omega),o1.2 j hj]
end
end
end Go.Proofs.YtjnkfbpadpmakaaGreatDoor.Am
