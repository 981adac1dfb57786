/- New stores; is a number in a row: walked; conditions: none. -/
import Derived.Test.YtickdehehcmfbaaGreatDoorAmM06
import Derived.WideKeyArgs
import Derived.ChangeBears2
import Derived.OpenShut
import GoSem.ClaimJoined
import Derived.Test.YtickdehehcmfbaaGreatDoorAmM04
import Derived.Shelf.Strings.Count
import Derived.Test.YtickdehehcmfbaaGreatDoorAmM05
set_option linter.unusedVariables false
set_option linter.unusedSimpArgs false
namespace Go.Proofs.YtickdehehcmfbaaGreatDoor.Am
open Go Go.Proofs
noncomputable section
theorem SF:DH Tryz.prog 60=some 65:=by kernel_rfl
theorem Pk(m:Nat):Ab Tryz.prog 62 (zipIdx [1] [.map (some m)])=some (.agg [.slice none 0 (some 0),.map (some m)]):=by kernel_rfl
theorem WU{E:Bt}(hE:A0 E){s:AE}(hg:C9 s 1 At=true)(h1:1<s.next){K:AV→AE→Prop}
  (hK:∀p s' O',B7 s.next s s'→AN s' p [] O'→BZ s' O'→(∀j∈O',s.next≤j)→K (.ptr (some (p,0))) s'):WF E 28 [] K s:=by
 refine hE.go Vx (by decide) rfl ?_
 generalize hs:s.next=b
 have hs0:s=ext s []:=(AZ s).symm
 rw[hs]at h1
 have hnx:(ext s [.map 65 [],R 62 0 false [.slice none 0 (some 0),.map (some (nid b 0))]]).next=b+2:=by rw[Wm,hs,AH];rfl
 rw[hs0]
 simp only[Yw,Um,Un,SF,Pk,hs,Qa,Qb,Qc,Qd,Qe,Qf,Qg,Qh,Qi,Qj,Qk,Ql,Qm,Qn,true_and,and_true,Qo,Qp,Qq,Qr,Qs,Qt,Qu,Qv,Qw,Qx,Qy,Qz,Ra,Rb,Rc,Rd,Re,Rf,Rg,Rh,Ri,Rj,Rk,Rl,Rm,Ya,Yb,Yc,Rn,Ro,Xv,Yd,Ye,Rq,Rs,Rt,Ru,Rw,Rx,Ry,Rz,Wa,Wb,Wc,Wd,We,Wf,Wg,Wh,Wi,Wj,Wl,Wm,Wn,Wp,Wq,Wr,Ws,Wt,Wu,Wv,Ww,Wx,Wy,Wz,Xa,Xb,Xc,Xd,Xe,Xf,Xg,Xh,Xi,Xj,Xk,Xl,Xm,Xn,Xo,Xp,Xq,Xr,ZC,ZF,ZE,ZD,ZH,ZI,List.getElem?_cons_zero,List.getElem?_cons_succ,ZG,ZJ,ZK,ZL,ZB,Nat.reduceAdd,Nat.reduceLT,Nat.reduceLeDiff,decide_true,decide_false,Bool.true_and,Bool.and_true,ZM,Y9,Option.some.injEq,Xs,Xt,Xu,Xv]
 have hge:∀j∈[nid b 1,nid b 0],b≤j:=fun j hj=>by
  simp only[Zd,Zj,or_false]at hj
  rcases hj with rfl | rfl<;>rw[AH]<;>omega
 refine hK (nid b 1) _ [nid b 1,nid b 0] AK ?_ ⟨by rw[DB (Wh (by omega))];exact hg,by rw[hnx];omega,fun hm=>by have:=hge 1 hm;omega⟩ (by rw[hs];exact hge)
 refine⟨⟨List.nodup_nil,fun i t h=>by simp at h,fun t h=>by cases h⟩,ZW _,.slice none 0 (some 0),nid b 0,[],[],?_,F3.nil _ _ _,?_,rfl,fun i t m h=>by simp at h,rfl,?_,?_,?_,by simp,by simp⟩
 ·rw[Wg hs (by simp)];rfl
 ·rw[Wg hs (by simp)];rfl
 ·rw[hnx,AH];omega
 ·rw[hnx,AH];omega
 ·rw[AH,AH];omega
structure RT where
 kind:Int
 id:Int
 con:Nat
 kids:List Int
 kv:AV
def RT.cells(t:RT):List AV:=[iv t.kind,iv t.id]++(Tm.con t.con).cells++[t.kv]
def WY(T:List RT):List AV:=T.flatMap RT.cells
def Vl(s:AE)(O Q:List Nat)(t:RT):Prop:=
 (t.kids=[]∧t.kv=.slice none 0 (some 0))∨∃j,t.kv=.slice (some (j,0)) t.kids.length none∧j∈O∧j ∉ Q∧Bs (s.heap.get j) 0 t.kids.length=some (CS t.kids)
structure Ym(s:AE)(q:Nat)(T:List RT)(O:List Nat):Prop where
 ex:∃tv OT,s.heap.get q=some (R 80 0 false [tv])∧F3 122 10 s tv T.length (WY T) OT∧(∀t∈T,t.con<11∧Vl s O (q::OT) t)∧(∀j∈q::OT,j∈O)∧q ∉ OT
 low:∀ (i:Nat) (t:RT),T[i]? = some t→∀k∈t.kids,0≤k∧k<(i:Int)
 lt:∀j∈O,j<s.next
section
variable{E:Bt}(hE:A0 E){s:AE}{q:Nat}{T:List RT}{O:List Nat}(h:Ym s q T O){K:AV→AE→Prop}
include hE h
end
theorem M9{E:Bt}(hE:A0 E){s:AE}(hg:C9 s 1 At=true){K:AV→AE→Prop}(hK:K (.bool true) s):WF E 7 [] K s:=by
 refine WF.native (hE.tab _ _ _ (.bool true,s) ?_) hK
 have h1:CT CV 7 []=some (.bool true):=by kernel_rfl
 have h2:CN 7 [] s=(CT CV 7 []).bind fun r=>AF (C9 s 1 At) (some (r,s)):=rfl
 unfold Dq
 rw[h2,h1,Option.bind_some,hg]
 rfl
structure RS(s:AE)(q:Nat)(T:List RT)(O:List Nat):Prop where
 at_:Ym s q T O
 gl:BZ s O
 kl:∀t∈T,t.kids.length≤3
abbrev RP:=Int×Int×Nat×List Int
section
variable{E:Bt}(hE:A0 E){s:AE}{q:Nat}{T:List RT}{O:List Nat}(h:RS s q T O)(hT:T.length≤900){K:AV→AE→Prop}
include hE h hT
end
theorem I5.kidS{S:List Tm}(h:I5 S):∀t∈S,∀k∈t.kids,k∈S:=fun t ht k hk=>by
 obtain⟨j,_,hj⟩:=h.cl _ _ (Cv ht) k hk
 exact ZZ hj
def ET(S:List Tm)(x:Int)(u:Tm):Prop:=Kp S.length x=true∧BD S x=u
theorem Nj{n:Nat}{x:Int}:Kp n x=true↔0≤x∧x<(n:Int):=by
 unfold Kp;simp
theorem CP{S:List Tm}{k:Nat}{u:Tm}(h:S[k]? = some u):ET S (k:Int) u:=by
 have hl:k<S.length:=by
  rcases ZO k S.length with h' | h'
  ·exact h'
  ·rw[ZT h']at h;cases h
 have hr:Kp S.length (k:Int)=true:=Nj.2 (by omega)
 refine⟨hr,?_⟩
 unfold BD
 rw[if_pos hr,Z4,Int.toNat_natCast,h];rfl
theorem ET.at{S:List Tm}{x:Int}{u:Tm}(h:ET S x u):∃k:Nat,x=(k:Int)∧S[k]? = some u:=by
 obtain⟨h1,h2⟩:=h
 obtain⟨h3,h4⟩:=Nj.1 h1
 refine⟨x.toNat,by omega,?_⟩
 unfold BD at h2
 rw[if_pos h1,Z4]at h2
 have hl:x.toNat<S.length:=by omega
 rw[ZP hl]at h2 ⊢
 rw[← h2];rfl
theorem ET.ext{S S':List Tm}{x:Int}{u:Tm}(h:ET S x u)(k:∃y,S'=S++y):ET S' x u:=by
 obtain⟨n,rfl,hn⟩:=h.at
 obtain⟨y,rfl⟩:=k
 refine CP ?_
 have hl:n<S.length:=by
  rcases ZO n S.length with h' | h'
  ·exact h'
  ·rw[ZT h']at hn;cases hn
 rw[Zb hl];exact hn
theorem ET.mem{S:List Tm}{x:Int}{u:Tm}(h:ET S x u):u∈S:=by
 have:=(FJ h.1).1
 rw[h.2]at this;exact this
theorem ET.of{S:List Tm}{u:Tm}(h:u∈S):ET S (ix S u:Int) u:=⟨(OJ h).2,(OJ h).1⟩
theorem ET.ix{S:List Tm}{x:Int}{u:Tm}(h:ET S x u)(hn:S.Nodup):(ix S u:Int)=x:=by
 have:=(FJ h.1).2 hn
 rw[h.2]at this;exact this
structure TW(S0:List Tm)(p:Nat)(s:AE)(S:List Tm)(O:List Nat)(m:Nat):Prop where
 st:AN s p S O
 gl:BZ s O
 pre:∃x,S=S0++x
 len:S.length≤200+82 * m
section
variable{E:Bt}(hE:A0 E){S0:List Tm}{p:Nat}{s:AE}{S:List Tm}{O:List Nat}{m:Nat}(h:TW S0 p s S O m)(hm:m≤900)
include h
include hE
include hm
variable{L:List Tm}(hLl:L.length≤81)(hLk:∀t∈L,∀k∈t.kids,k∈L){ti:Int}{u:Tm}(hn:ET S ti u)(hu:u∈L)
include hLl hLk hn hu
end
end
end Go.Proofs.YtickdehehcmfbaaGreatDoor.Am
set_option linter.unusedVariables false
set_option linter.unusedSimpArgs false
set_option maxRecDepth 16000
namespace Go.Proofs.YtickdehehcmfbaaGreatDoor.Am
open Go Go.Proofs
noncomputable section
theorem Oi:A0 V9:=by
 refine⟨rfl,fun f xs s hf=>?_,fun f xs s p h=>h⟩
 show Dq f xs s=none
 have hf':∀k∈[44,30,45,127,109,7,55,37,46,29],Nat.beq f k=false:=fun k hk=>AG.beq_no fun e=>hf (e▸hk)
 have h1:([44,30,45,127,109,7]:List FuncId).any (Nat.beq f)=false:=by
  rw[List.any_eq_false]
  intro k hk
  rw[hf' k (Z3 (bs:=[55,37,46,29]) hk)]
  exact Bool.false_ne_true
 have h2:CN f xs s=none:=by
  unfold CN KQ
  rw[h1];rfl
 have h3:Oz f xs s=none:=by
  unfold Oz
  rw[hf' 55 (by simp),hf' 37 (by simp),hf' 46 (by simp)];rfl
 unfold Dq
 rw[h2,h3]
theorem Vi{H:Type}{enc:TypeId×Value→H}{P:Program}{t:TypeId}(hl:laidOutB P=true)(hr:P.readableRec t=true)(hrow:t<P.types.size){W W':World}{v:Value}{d:DataW H}{ps:List MemPlace}{sp:Nat→Bool}
  (h:DataW.Trod enc P W 0 (fun _=>true) true t v d ps) (hk:Jq W W') (hlt:∀x∈ps,x.block<W.heap.size) (hs:∀x∈ps,sp x.block=true):DataW.Trod enc P W' 0 sp true t v d ps:=
 WideElems.Trod_stays hl hr hrow h (fun x hx=>by
  have:=hlt x hx
  cases x with
  | cell b o=>exact World.cell?_of_block (w:=W) (hk.heap b this)
  | map b=>exact hk.heap b this) hs
def X2:DataW Unit:=.agg (At.map fun v=>match v with | .int k n=>.lit (.int k n) | _=>.nil)
theorem F5{P:Program}{w:World}{x:String×DataW Unit}:∀ {laid:List (String×DataW Unit)}{ps:List MemPlace},DataW.LaidVars P w laid ps→x∈laid →
  ∃g t cs fuel p,P.globalNamed x.1=some g∧(P.globals[g]?).map (·.type)=some t∧w.var? P x.1=some cs∧DataW.trod (fun _=>()) P w 0 (fun _=>true) false fuel t cs.toList=some (x.2,p)
 | [],_,_,hx=>by cases hx
 | (n,d)::r,ps,h,hx=>by
  obtain⟨g,t,cs,fuel,p,q,h1,h2,h3,h4,h5,_⟩:=h
  rcases Zd.1 hx with rfl | hx
  ·exact⟨g,t,cs,fuel,p,h1,h2,h3,h4⟩
  ·exact F5 h5 hx
theorem XW:Tryz.prog.cellsOf 143=1:=by kernel_rfl
theorem pow_cells {W : World} {laid : List (String × DataW Unit)} (h : laidMet Tryz.prog laid W) (hm : ("internal/strconv.uint64pow10", X2)   ∈ laid) :
    1<W.heap.size∧∀k v,At[k]? = some v→∃v',W.cell? ⟨1,k,none⟩=some v'∧AJ Lk v v':=by
  obtain⟨ps,h,_⟩:=h
  obtain⟨g,t,cs,fuel,p,hg,ht,hv,hd⟩:=F5 h hm
  obtain rfl := Option.some.inj ((show Tryz.prog.globalNamed "internal/strconv.uint64pow10" = some 1 by kernel_rfl).symm.trans hg)
  obtain rfl:=Option.some.inj ((show(Tryz.prog.globals[1]?).map (·.type)=some 169 by kernel_rfl).symm.trans ht)
  obtain⟨xs,m,_,ex,_,hl,hel⟩:=DataW.trod_array Tryz.underlying169 hd
  have e3:X2=.agg (xs.map (·.1)):=(Prod.mk.inj ex).1
  have e3:=DataW.agg.inj e3
  have hlen:At.length=20:=rfl
  have hcell:∀k v,At[k]? = some v→∃v',W.cell? ⟨1,k,none⟩=some v'∧AJ Lk v v':=by
    intro k v hk
    have hk20:k<20:=by
      rcases ZO k 20 with h' | h'
      · exact h'
      · rw[ZT (by omega)]at hk;cases hk
    have hE:=hel k hk20
    rw[XW,Zf,ZP (by omega)]at hE
    obtain⟨z,e1,e2,_⟩:=DataW.trod_int Tryz.underlying143 hE
    have hvz:v=.int .u64 z:=by
      have e4:(At.map fun v=>match v with | .int k n=>(DataW.lit (.int k n):DataW Unit) | _=>.nil)[k]? = (xs.map (·.1))[k]? := by rw[e3]
      rw[Zg,hk,Zg,ZP (by omega:k<xs.length),e2]at e4
      have hall:∀v∈At,∃n,v=.int .u64 n:=by
        intro v hv
        simp only[At,Zd,Zj,or_false]at hv
        rcases hv with rfl | rfl | rfl | rfl | rfl | rfl | rfl | rfl | rfl | rfl | rfl | rfl | rfl | rfl | rfl | rfl | rfl | rfl | rfl | rfl<;>exact⟨_,rfl⟩
      obtain⟨n,rfl⟩:=hall v (ZZ hk)
      simp only[Zl,Option.some.injEq,DataW.lit.injEq,Lit.int.injEq,true_and]at e4
      rw[e4]
    subst hvz
    refine⟨.int .u64 z,?_,.int _ _⟩
    rw[World.var?_cell hg hv k]
    have h0:((cs.toList.drop k).take 1)[0]? = some (.int .u64 z):=by rw[e1];rfl
    have:cs.toList[k]? = some (.int .u64 z):=by simpa using h0
    simpa using this
  refine⟨?_,hcell⟩
  obtain⟨v',h1,_⟩:=hcell 0 (.int .u64 1) rfl
  exact TY h1
section
variable{H:Type}{enc:TypeId×Value→H}{w:World}{held:Bool}
end
section
variable{H:Type}{enc:TypeId×Value→H}{W:World}{base:Nat}
end
end
end Go.Proofs.YtickdehehcmfbaaGreatDoor.Am
set_option linter.unusedVariables false
set_option linter.unusedSimpArgs false
namespace Go.Proofs.YtickdehehcmfbaaGreatDoor.Am
open Go Go.Proofs Go.Shelf
noncomputable section
def KK:Go.Shelf.Ren:=⟨fun | 138=>29 | 195=>48 | 218=>49 | 143=>50 | 219=>73 | 217=>91 | 225=>92 | 224=>93 | 267=>94 | 266=>118 | 314=>119 | n=>n,fun | 9=>9 | 3=>3 | 4=>4 | 5=>5 | 0=>0 | 46=>115 | 146=>153 | 51=>141 | n=>n,fun | 1=>0 | n=>n⟩
theorem SM:Go.Proofs.Lays.n138 Tryz.prog KK:={
 mixed:=by kernel_rfl
 f138:=Tryz.func29.trans (congrArg some (by kernel_rfl))
 f143:=Tryz.func50.trans (congrArg some (by kernel_rfl))
 f195:=Tryz.func48.trans (congrArg some (by kernel_rfl))
 f217:=Tryz.func91.trans (congrArg some (by kernel_rfl))
 f218:=Tryz.func49.trans (congrArg some (by kernel_rfl))
 f219:=Tryz.func73.trans (congrArg some (by kernel_rfl))
 f224:=Tryz.func93.trans (congrArg some (by kernel_rfl))
 f225:=Tryz.func92.trans (congrArg some (by kernel_rfl))
 f266:=Tryz.func118.trans (congrArg some (by kernel_rfl))
 f267:=Tryz.func94.trans (congrArg some (by kernel_rfl))
 f314:=Tryz.func119.trans (congrArg some (by kernel_rfl))
 t0:=Tryz.underlying0
 a0:=Tryz.isAgg0
 z0:=Tryz.sizeOf0
 v0:=Tryz.zeroValue0
 t3:=Tryz.underlying3
 a3:=Tryz.isAgg3
 z3:=Tryz.sizeOf3
 v3:=Tryz.zeroValue3
 t4:=Tryz.underlying4
 a4:=Tryz.isAgg4
 z4:=Tryz.sizeOf4
 v4:=Tryz.zeroValue4
 t5:=Tryz.underlying5
 a5:=Tryz.isAgg5
 z5:=Tryz.sizeOf5
 v5:=Tryz.zeroValue5
 t9:=Tryz.underlying9
 a9:=Tryz.isAgg9
 z9:=Tryz.sizeOf9
 v9:=Tryz.zeroValue9
 t46:=Tryz.underlying115
 a46:=Tryz.isAgg115
 z46:=Tryz.sizeOf115
 v46:=Tryz.zeroValue115
 t51:=Tryz.underlying141
 a51:=Tryz.isAgg141
 z51:=Tryz.sizeOf141
 v51:=Tryz.zeroValue141
 t146:=Tryz.underlying153
 a146:=Tryz.isAgg153
 z146:=Tryz.sizeOf153
 v146:=Tryz.zeroValue153
 g1:=by kernel_rfl }
def Gi(x y:List Nat):Nat:=Go.Lib.count (x.map UInt8.ofNat) (y.map UInt8.ofNat)
def GE(s:AE):List AV→Option (AV×AE)
 | [.str x,.str y]=>(rowAt s 0).bind fun r=>AF (match r.glob with | some 0=>true | _=>false) <| (B9 s 0 0).bind fun v=>match v with
  | .int .i64 _=>AF (Nat.ble 2 y.length && Nat.ble x.length 1000000) (some (.int .i64 (Gi x y),s))
  | _=>none
 | _=>none
theorem Ii(b:ByteArray):(b.data.toList.map fun(c:UInt8)=>c.toNat).map UInt8.ofNat=b.data.toList:=by
 rw[Zx]
 conv=>rhs;rw[← List.map_id b.data.toList]
 exact Z2 fun c _=>by simp
section
variable{ρ:Aq}{s s1:AE}{w:World}
theorem MT(h:Al Tryz.prog ρ s w){ys:List AV}{as':Array Value}{v:AV}(hs:GE s ys=some (v,s1))(has:AI ρ ys as'.toList):CallsIn Fence.wide 0 Tryz.prog 29 as' w (Cq Tryz.prog ρ s w v s1):=by
  refine callsIn_wide.2 ?_
  unfold GE at hs
  split at hs<;>first | (cases hs;done) | skip
  rename_i x y
  simp only[ZA]at hs
  obtain⟨r,hrow,hs⟩:=hs
  obtain⟨hgl,hs⟩:=AA hs
  simp only[ZA]at hs
  obtain⟨u,hu,hs⟩:=hs
  split at hs<;>first | (cases hs;done) | skip
  rename_i m
  obtain⟨hg,hs⟩:=AA hs
  simp only[Bool.and_eq_true,ZN]at hg
  injection hs with hs
  injection hs with q1 q2
  subst q1;subst q2
  have hgl0:r.glob=some 0:=by
    split at hgl
    · assumption
    · cases hgl
  obtain⟨l0⟩:=as'
  cases has with
  | cons h1 h2 =>
  cases h2 with
  | cons h2 h3 =>
  cases h3
  cases h1 with
  | str ex =>
  cases h2 with
  | str ey =>
  rename_i bx by'
  subst ex;subst ey
  obtain⟨rb,hrb⟩:=h.glb 0 _ 0 (Aj hrow) hgl0
  have hok:BF ρ w r rb:=h.obj 0 _ rb (Aj hrow) hrb
  obtain⟨hb,hoff⟩:=hok.gl 0 hgl0
  obtain⟨v',hv,hc⟩:=Ev h hrb hu
  cases hv
  rw[hb,hoff]at hc
  rw[ZY,ZY]at hg
  refine Calls.mono (Any.strings_Count SM bx by' m w ?_ hc ?_) ?_
  · have:bx.size=bx.data.toList.length:=Array.length_toList.symm
    omega
  · have:by'.size=by'.data.toList.length:=Array.length_toList.symm
    omega
  · rintro e w' ⟨rfl, rfl⟩
    refine⟨ρ,?_,h,Fr.refl _ _ _⟩
    unfold Gi
    rw[Ii,Ii]
    exact .int _ _
end
end
end Go.Proofs.YtickdehehcmfbaaGreatDoor.Am
set_option linter.unusedVariables false
set_option linter.unusedSimpArgs false
namespace Go.Proofs.YtickdehehcmfbaaGreatDoor.Am
open Go Go.Proofs
noncomputable section
def Cy(i:Int):List Nat:=match CT CV 45 [iv i]with
 | some (.str l)=>l
 | _=>[]
def Nl(k:Nat):Bool:=match CT CV 45 [iv ((k:Int) - 3)]with
 | some (.str l)=>Nat.ble l.length 3
 | _=>false
theorem R0:((List.range 14).all Nl)=true:=by kernel_rfl
theorem DF{i:Int}(h:-3≤i∧i≤10):CT CV 45 [iv i]=some (.str (Cy i))∧(Cy i).length≤3:=by
  have h1:=List.all_eq_true.1 R0 (i+3).toNat (List.mem_range.2 (by omega))
  unfold Nl at h1
  rw[show((i+3).toNat:Int) - 3=i from by omega]at h1
  unfold Cy
  split at h1
  · rename_i l hl
    rw[hl]
    exact⟨rfl,by simpa[ZN]using h1⟩
  · cases h1
theorem Gk{E:Bt}(hE:A0 E){s:AE}(hg:C9 s 1 At=true){i:Int}(h:-3≤i∧i≤10){K:AV→AE→Prop}(hK:K (.str (Cy i)) s):WF E 45 [iv i] K s:=by
 refine WF.native (hE.tab _ _ _ (.str (Cy i),s) ?_) hK
 have h2:CN 45 [iv i] s=(CT CV 45 [iv i]).bind fun r=>AF (C9 s 1 At) (some (r,s)):=rfl
 unfold Dq
 rw[h2,(DF h).1,Option.bind_some,hg]
 rfl
theorem JY(xs:List AV)(s:AE):Dq 46 xs s=Gn s xs:=by
 have h2:CN 46 xs s=none:=rfl
 unfold Dq
 rw[h2];rfl
def CQ:Tm→List Nat
 | .var i=>120::Cy i
 | .bnd i=>98::Cy i
 | .con n=>(Tm.con n).ktext
 | .sel d k=>[40,103,101,116]++(32::CQ d)++(32::CQ k)++[41]
 | .upd d k a=>[40,115,101,116]++(32::CQ d)++(32::CQ k)++(32::CQ a)++[41]
def G3(t:Tm):List Nat:=if 4096<t.sz then []else CQ t
def Told(S:List Tm):Prop:=(∀i,Tm.var i∈S→-3≤i∧i≤10)∧∀i,Tm.bnd i∈S→-3≤i∧i≤10
theorem Oc:((List.range 13).all fun n=>Nat.ble (Tm.con n).ktext.length 20)=true:=by kernel_rfl
theorem Dj{S:List Tm}(hS:I5 S)(hT:Told S):∀t,t∈S→t.sz≤4096→(CQ t).length≤30 * t.sz
 | .var i,ht,_=>by have:=(DF (hT.1 i ht)).2;simp only[CQ,Tm.sz,ZC];omega
 | .bnd i,ht,_=>by have:=(DF (hT.2 i ht)).2;simp only[CQ,Tm.sz,ZC];omega
 | .con n,ht,_=>by
  have hn:n<13:=hS.ok _ ht
  have:=List.all_eq_true.1 Oc n (List.mem_range.2 hn)
  simp only[CQ,Tm.sz]
  have h2:(Tm.con n).ktext.length≤20:=by simpa[ZN]using this
  omega
 | .sel d k,ht,h=>by
  simp only[Tm.sz]at h ⊢
  have h1:=Dj hS hT d (hS.kidS _ ht d (by simp[Tm.kids])) (by omega)
  have h2:=Dj hS hT k (hS.kidS _ ht k (by simp[Tm.kids])) (by omega)
  simp only[CQ,Ze,ZC,ZF]
  omega
 | .upd d k a,ht,h=>by
  simp only[Tm.sz]at h ⊢
  have h1:=Dj hS hT d (hS.kidS _ ht d (by simp[Tm.kids])) (by omega)
  have h2:=Dj hS hT k (hS.kidS _ ht k (by simp[Tm.kids])) (by omega)
  have h3:=Dj hS hT a (hS.kidS _ ht a (by simp[Tm.kids])) (by omega)
  simp only[CQ,Ze,ZC,ZF]
  omega
theorem R8{t k:Tm}(h:k∈t.kids)(hs:t.sz≤4096):k.sz≤4096:=by
 cases t<;>simp only[Tm.kids,Zd,Zj,or_false,false_or]at h
 ·rcases h with rfl | rfl<;>simp only[Tm.sz]at hs<;>omega
 ·rcases h with rfl | rfl | rfl<;>simp only[Tm.sz]at hs<;>omega
theorem F7{x y:List Nat}(h:x.length+y.length≤1000000000):AU Tryz.prog .add 9 (.str x) (.str y)=some (.str (x++y)):=by
 show AF (Nat.ble (x.length+y.length) 1152921504606846976) _=_
 rw[BS (by omega)];rfl
def CC(l:List (List Nat)):List AV:=l.map AV.str
theorem TK:B6 Tryz.prog 9 1=true:=by kernel_rfl
theorem ON:BX Tryz.prog 39=true:=by kernel_rfl
theorem GS(x:List Nat):AW Tryz.prog 39 1 (zipIdx [0] [.str x])=some (R 9 1 false [.str x]):=by kernel_rfl
theorem OD{s:AE}{j:Nat}{x:List Nat}(h:s.heap.get j=some (R 9 1 false [.str x])):Co Tryz.prog s 9 1 (.slice (some (j,0)) 1 (some 1))=some (1,[.str x]):=by
 show(Ki _ j 0 1 1).bind _=_
 rw[Jk (l:=[.str x]) (by rw[DD,h];exact Wj (Y9 _))]
 rfl
theorem PX{s:AE}{i j:Nat}{x y:List Nat}(hi:s.heap.get i=some (R 9 1 false [.str x]))(hj:s.heap.get j=some (R 9 1 false [.str y])):
  As Tryz.prog s [39,39] [.slice (some (i,0)) 1 (some 1),.slice (some (j,0)) 1 (some 1)]=some (.slice (some (s.next,0)) 2 none,newObj s (R 9 1 true [.str x,.str y])):=by
 have hsrc:=OD hj
 have hall:Af [AV.str y]=true:=rfl
 have h1:Nat.ble ((1+1) * 16) 1099511627776=true:=rfl
 have h2:Nat.ble (1+1) 1099511627776=true:=rfl
 have h3:Nat.ble (1+1) 1=false:=rfl
 have h4:A9 s i 0 (1 * 1)=some [.str x]:=by rw[DD,hi];rfl
 simp only[As,Tryz.underlying39,Y7,Yo,Option.bind_some,hsrc,ON,hall,h1,h2,appTo,Dz,h3,h4,cond_false,Ba,TK,Xa,Bool.and_self]
 rfl
theorem S5{s:AE}{i:Nat}{l:List (List Nat)}(hi:s.heap.get i=some (R 9 1 true (CC l)))(hl:i<s.next):F3 9 1 s (.slice (some (i,0)) l.length none) l.length (CC l) [i]:=
 .inr ⟨i,none,rfl,⟨by simp[CC],.inr ⟨rfl,ZW _,hl,(fun q hq=>absurd hq (by simp)),_,hi,⟨rfl,fun k u hk=>by show(Ny _).get k=_;rw[KY];exact hk⟩,rfl,rfl,rfl,rfl,rfl⟩⟩,rfl⟩
theorem PY{s:AE}{v:AV}{l:List (List Nat)}{OB:List Nat}(hb:F3 9 1 s v l.length (CC l) OB)(x:List Nat)(hl:l.length≤1000000):
  ∃v2 s2 OB2,As Tryz.prog (newObj s (R 9 1 false [.str x])) [39,39] [v,.slice (some (s.next,0)) 1 (some 1)]=some (v2,s2)∧F3 9 1 s2 v2 (l++[x]).length (CC (l++[x])) OB2∧s2.next=s.next+2∧(∀j,j<s.next→j ∉ OB→s2.heap.get j=s.heap.get j)∧(∀j∈OB2,j∈OB∨s.next≤j):=by
 have hnx:(ext s [R 9 1 false [.str x]]).next=s.next+1:=by rw[Wm,AH];rfl
 have hbuf2:=hb.frame (s':=ext s [R 9 1 false [.str x]]) (by rw[hnx];omega) fun j hj=>Wh (hb.lt j hj)
 obtain⟨v2,s3,OB2,happ,hb2,hn2,hf2,hO2,hsl⟩:=hbuf2.append (xt:=39) (m:=1) Tryz.underlying39 Y7 Yo (by omega) ON TK (by omega) (OD (j:=nid s.next 0) (by rw[Wg rfl (by simp)];rfl)) rfl rfl (by omega) (by omega)
 rw[hnx]at hn2 hf2 hO2
 have hne:newObj s (R 9 1 false [.str x])=ext s [R 9 1 false [.str x]]:=by
  have:=Wl s [] (R 9 1 false [.str x])
  rw[AZ]at this;exact this
 rw[← hne,If]at happ
 refine⟨v2,s3,OB2,happ,?_,by omega,fun j hj hB=>by rw[hf2 j (by omega) hB,Wh (by omega)],fun j hj=>(hO2 j hj).imp id fun h=>by omega⟩
 rw[Ze,show CC (l++[x])=CC l++[.str x]from by simp[CC]]
 exact hb2
def wX:List UInt8:=[120,45,51]
theorem RV{u:List UInt8}(h:(120:UInt8) ∉ u):Go.Lib.index u wX=-1:=by
 induction u with
 | nil=>rfl
 | cons b u ih =>
  have hb:(120:UInt8)≠b:=fun e=>h (by rw[e];simp)
  have hi:=ih fun hm=>h (ZQ _ hm)
  have hp:wX.isPrefixOf (b::u)=false:=by
   show((120:UInt8) == b && _)=false
   rw[beq_eq_false_iff_ne.2 hb];rfl
  unfold Go.Lib.index
  rw[hp,hi];rfl
theorem RU{u:List UInt8}(h:(120:UInt8) ∉ u)(v:List UInt8):Go.Lib.index (u++(wX++v)) wX=(u.length:Int):=by
 induction u with
 | nil =>
  have hp:wX.isPrefixOf (120::45::51::v)=true:=by simp[wX,List.isPrefixOf]
  show Go.Lib.index (120::45::51::v) wX=_
  unfold Go.Lib.index
  rw[hp];rfl
 | cons b u ih =>
  have hb:(120:UInt8)≠b:=fun e=>h (by rw[e];simp)
  have hi:=ih fun hm=>h (ZQ _ hm)
  have hp:wX.isPrefixOf (b::(u++(wX++v)))=false:=by
   show((120:UInt8) == b && _)=false
   rw[beq_eq_false_iff_ne.2 hb];rfl
  show Go.Lib.index (b::(u++(wX++v))) wX=_
  unfold Go.Lib.index
  rw[hp,hi]
  have:((u.length:Int) == -1)=false:=by rw[beq_eq_false_iff_ne];omega
  rw[this]
  simp
def FO:List UInt8→List (List UInt8)→List UInt8
 | u,[]=>u
 | u,v::us=>u++(wX++FO v us)
theorem ID:∀ (us:List (List UInt8))(u:List UInt8)(fuel:Nat),(120:UInt8) ∉ u→(∀v∈us,(120:UInt8) ∉ v)→us.length<fuel→Go.Lib.countFrom wX fuel (FO u us)=us.length
 | [],u,fuel+1,hu,_,_=>by
  unfold Go.Lib.countFrom
  show(if (Go.Lib.index u wX == -1)=true then 0 else _)=0
  rw[RV hu];rfl
 | v::us,u,fuel+1,hu,hus,hf=>by
  unfold Go.Lib.countFrom
  show(if (Go.Lib.index (u++(wX++FO v us)) wX == -1)=true then 0 else 1+Go.Lib.countFrom wX fuel ((u++(wX++FO v us)).drop ((Go.Lib.index (u++(wX++FO v us)) wX).toNat+wX.length)))=_
  rw[RU hu]
  have h1:((u.length:Int) == -1)=false:=by rw[beq_eq_false_iff_ne];omega
  rw[h1]
  have h2:(u++(wX++FO v us)).drop ((u.length:Int).toNat+wX.length)=FO v us:=by
   rw[← Zk,List.drop_left' (by simp)]
  rw[h2,ID us v fuel (hus v (by simp)) (fun x hx=>hus x (ZQ _ hx)) (by simp at hf;omega)]
  simp;omega
 | us,u,0,_,_,h=>by omega
def Gl(s:List UInt8)(k:Nat):Prop:=∃u us,s=FO u us∧us.length=k∧(120:UInt8) ∉ u∧∀v∈us,(120:UInt8) ∉ v
theorem Gl.word:Gl wX 1:=⟨[],[[]],rfl,rfl,by simp,by simp⟩
theorem Gl.none{w:List UInt8}(h:(120:UInt8) ∉ w):Gl w 0:=⟨w,[],rfl,rfl,h,by simp⟩
theorem LG:∀ (us:List (List UInt8))(u w:List UInt8)(ws:List (List UInt8)),(120:UInt8) ∉ u→(∀v∈us,(120:UInt8) ∉ v)→(120:UInt8) ∉ w→(∀v∈ws,(120:UInt8) ∉ v)→Gl (FO u us++FO w ws) (us.length+ws.length)
  | [],u,w,[],hu,_,hw,_=>⟨u++w,[],rfl,rfl,by simp[hu,hw],by simp⟩
  | [],u,w,x::ws,hu,_,hw,hws=>⟨u++w,x::ws,by simp[FO],by simp,by simp[hu,hw],hws⟩
  | v::us,u,w,ws,hu,hus,hw,hws=>by
    obtain⟨a,b,h1,h2,h3,h4⟩:=LG us v w ws (hus v (by simp)) (fun x hx=>hus x (ZQ _ hx)) hw hws
    refine⟨u,a::b,?_,by simp[h2];omega,hu,fun x hx=>?_⟩
    · show u++(wX++FO v us)++FO w ws=u++(wX++FO a b)
      rw[← h1];simp
    · rcases Zd.1            hx with rfl | hx
      · exact h3
      · exact h4 x hx
theorem Gl.app{s t:List UInt8}{k m:Nat}(h:Gl s k)(g:Gl t m):Gl (s++t) (k+m):=by
 obtain⟨u,us,rfl,rfl,h3,h4⟩:=h
 obtain⟨w,ws,rfl,rfl,g3,g4⟩:=g
 exact LG us u w ws h3 h4 g3 g4
theorem LH:∀ (us:List (List UInt8))(u:List UInt8),us.length≤(FO u us).length
 | [],u=>ZW _
 | v::us,u=>by
  have:=LH us v
  simp only[FO,Ze,ZC]
  have:wX.length=3:=rfl
  omega
theorem Gl.count{s:List UInt8}{k:Nat}(h:Gl s k):Go.Lib.count s wX=k:=by
 obtain⟨u,us,rfl,rfl,h3,h4⟩:=h
 exact ID us u _ h3 h4 (by have:=LH us u;omega)
def Ae:Nat→Tm
 | 0=>.var (-3)
 | n+1=>.upd (Ae n) (Ae n) (Ae n)
theorem Na:∀n,Gl ((CQ (Ae n)).map UInt8.ofNat) (3 ^ n)
 | 0=>by
  have:(CQ (Ae 0)).map UInt8.ofNat=wX:=by kernel_rfl
  rw[this];exact Gl.word
 | n+1=>by
  have ih:=Na n
  have e:(CQ (Ae (n+1))).map UInt8.ofNat=[40,115,101,116,32]++((CQ (Ae n)).map UInt8.ofNat++([32]++((CQ (Ae n)).map UInt8.ofNat++([32]++((CQ (Ae n)).map UInt8.ofNat++[41]))))):=by
   simp[Ae,CQ]
  rw[e]
  have h1:Gl [41] 0:=Gl.none (by decide)
  have h2:Gl [32] 0:=Gl.none (by decide)
  have h3:Gl [40,115,101,116,32] 0:=Gl.none (by decide)
  have:=h3.app (ih.app (h2.app (ih.app (h2.app (ih.app h1)))))
  have hp:3 ^ (n+1)=0+(3 ^ n+(0+(3 ^ n+(0+(3 ^ n+0))))):=by rw[Nat.pow_succ];omega
  rw[hp];exact this
theorem MV(n:Nat):Gi (CQ (Ae n)) [120,45,51]=3 ^ n:=(Na n).count
def Cn(i j:Nat):AV:=.agg [.int .i64 4,.bool false,.str [],.str [],.slice (some (i,0)) 1 (some 1),.slice (some (j,0)) 1 (some 1),.int .i64 0]
def YW:AE:=newObj (newObj (S3 1 At) (N5 9 1 [.str [97]])) (N5 43 7 Tm.nullC)
theorem SY:N4 (.bool true) ((Ci V9 100000).call 44 [Cn 2 3] YW)=true:=by kernel_rfl
def IS(s:AE)(i sz:Nat)(cs:List AV):Bool:=match s.heap.get i with
 | some (.row r)=>Nat.beq r.n cs.length && Nat.beq r.sz sz && (match r.c.take 0 cs.length with | some l=>Hg.eqAs l cs | none=>false)
 | _=>false
theorem RO{s:AE}{i sz:Nat}{cs:List AV}(h:IS s i sz cs=true):∃r,s.heap.get i=some (.row r)∧r.n=cs.length∧r.sz=sz∧∀k,k<cs.length→r.c.get k=cs[k]? := by
 unfold IS at h
 split at h<;>first | (cases h;done) | skip
 rename_i r hg
 simp only[Bool.and_eq_true]at h
 obtain⟨⟨h1,h2⟩,h3⟩:=h
 refine⟨r,hg,ZR h1,ZR h2,?_⟩
 split at h3<;>first | (cases h3;done) | skip
 rename_i l hl
 have:=C7 h3
 subst this
 intro k hk
 have:=AG.take_get hl k hk
 simpa using this
def EN:L0:=fun f xs s=>bif Nat.beq f 44 then
  match xs with
  | [.agg [a,b,c,d,.slice (some (i,o)) n k,.slice (some (j,o')) n' k',e]]=>AF (Hg.eqAs xs [Cn i j] && (C9 s 1 At && (IS s i 1 [.str [97]] && IS s j 7 Tm.nullC))) (some (.bool true,s))
  | _=>none
 else none
theorem Lm{ρ:Aq}{s:AE}{w:World}{ρ1:Aq}{s1:AE}(hi:Al Tryz.prog ρ s w)(hd:I4 Tryz.prog w ρ1 s1){i sz:Nat}{cs:List AV}(hf:cs.all Ei=true)(hr:IS s i sz cs=true){rb:RB}(hrb:ρ i=some rb)(e:TypeId):
  ∃ρ',I4 Tryz.prog w ρ' (newObj s1 (N5 e sz cs))∧ρ1.le ρ'∧ρ' s1.next=some ⟨rb.b,rb.off,cs.length,sz⟩:=by
 obtain⟨r,h1,h2,h3,h4⟩:=RO hr
 have hok:BF ρ w r rb:=hi.obj i _ rb h1 hrb
 refine hd.row e sz rb.b rb.off cs (hi.lt i rb hrb) fun k u hk=>?_
 have hkl:k<cs.length:=by
  rcases ZO k cs.length with h' | h'
  ·exact h'
  ·rw[ZT h']at hk;cases hk
 obtain⟨v,g1,g2⟩:=hok.cells k u (by omega) (by rw[h4 k hkl];exact hk)
 exact⟨v,g1,BK (List.all_eq_true.1 hf u (ZZ hk)) g2⟩
theorem Sb:At.all Ei=true:=by kernel_rfl
theorem Mn         : DN     Tryz.prog EN      := by
  intro ρ s w f xs v s1 as' hc h hf ha
  unfold EN at hc
  cases hfb:Nat.beq f 44 with
  | false=>rw[hfb]at hc;cases hc
  | true =>
    rw[hfb]at hc
    have:=ZR hfb
    subst this
    simp only[cond_true]at hc
    split at hc<;>first | (cases hc;done) | skip
    rename_i _ _ _ _ i _ _ _ j _ _ _ _
    obtain⟨hg,hc⟩:=AA hc
    injection hc with hc
    injection hc with e1 e2
    subst e1;subst e2
    simp only[Bool.and_eq_true]at hg
    obtain⟨he,hp,h1,h2⟩:=hg
    have he:=C7 he
    rw[he]at ha
    obtain⟨l0⟩:=as'
    cases ha with
    | cons ha0 ha1 =>
    cases ha1
    cases ha0 with
    | agg ha0 =>
    rename_i cs'
    obtain⟨l1⟩:=cs'
    cases ha0 with
    | cons q0 p0 =>
    cases p0 with
    | cons q1 p1 =>
    cases p1 with
    | cons q2 p2 =>
    cases p2 with
    | cons q3 p3 =>
    cases p3 with
    | cons q4 p4 =>
    cases p4 with
    | cons q5 p5 =>
    cases p5 with
    | cons q6 p6 =>
    cases p6
    cases q4 with
    | slice r4 l4 =>
    cases q5 with
    | slice r5 l5 =>
    rename_i rb4 rb5
    obtain⟨r0,k1,k2,k3,k4⟩:=IR hp
    obtain⟨rbp,hrbp⟩:=h.glb 1 _ 1 k1 k3
    have hok:BF ρ w r0 rbp:=h.obj 1 _ rbp k1 hrbp
    obtain⟨hb,hoff⟩:=hok.gl 1 k3
    obtain⟨ρ1,HX⟩:=XZ (P:=Tryz.prog) (w:=w) (g:=1) (cells:=At) (by rw[← hb];exact h.lt 1 rbp hrbp) (fun k u hk=>by
      have hkl:k<At.length:=by
        rcases ZO k At.length with h' | h'
        · exact h'
        · rw[ZT h']at hk;cases hk
      obtain⟨v,g1,g2⟩:=hok.cells k u (by omega) (by rw[k4 k hkl];exact hk)
      rw[hb,hoff,ZB]at g1
      exact⟨v,g1,BK (List.all_eq_true.1 Sb u (ZZ hk)) g2⟩)
    obtain⟨ρ2,RQ,le2,hr2⟩:=Lm h HX (by kernel_rfl) h1 r4 9
    obtain⟨ρ3,hd3,le3,hr3⟩:=Lm h RQ (by kernel_rfl) h2 r5 43
    have hr2:ρ3 2=some ⟨rb4.b,rb4.off,1,1⟩:=le3 _ _ hr2
    have hr3:ρ3 3=some ⟨rb5.b,rb5.off,7,7⟩:=hr3
    have e4:AJ ρ3 (.slice (some (2,0)) 1 (some 1)) (.slice (some ⟨rb4.b,rb4.off+0,none⟩) 1 1):=.slice (rb:=⟨rb4.b,rb4.off,1,1⟩) hr2 l4
    have e5:AJ ρ3 (.slice (some (3,0)) 1 (some 1)) (.slice (some ⟨rb5.b,rb5.off+0,none⟩) 1 1):=.slice (rb:=⟨rb5.b,rb5.off,7,7⟩) hr3 l5
    have hargs:=AI.cons (ρ:=ρ3) (.agg (.cons (BK (σ:=ρ3) rfl q0) (.cons (BK (σ:=ρ3) rfl q1) (.cons (BK (σ:=ρ3) rfl q2) (.cons (BK (σ:=ρ3) rfl q3) (.cons e4 (.cons e5 (.cons (BK (σ:=ρ3) rfl q6) .nil)))))))) .nil
    have hrun:=SY
    cases hcall:(Ci V9 100000).call 44 [Cn 2 3] YW with
    | none=>rw[hcall]at hrun;cases hrun
    | some p =>
      obtain⟨v0,s2⟩:=p
      rw[hcall]at hrun
      have hv0:AV.bool true=v0:=J7 hrun
      subst hv0
      have:=(YU Ka (Fs Ih) rfl Nw 100000).call ρ3 YW w 44 [Cn 2 3] (.bool true) s2 _ hcall hd3.inv hd3.fresh hargs
      refine⟨this.1,CallsIn.mono this.2 ?_⟩
      intro e w' he
      cases e with
      | panicked c=>exact he.elim
      | outgrown=>exact he.elim
      | returned v' =>
        obtain⟨ρ',k1,k2,k3⟩:=he
        obtain⟨g1,g2⟩:=h.grown (w1:=w') ⟨k3.os,k3.tape,k3.output,k3.size,fun b hb' _=>k3.keep b hb' (hd3.notOwned b)⟩
        exact⟨ρ,BK rfl k1,g1,g2⟩
theorem Ni{i o n k:Nat}{c:Option Nat}(hk:k<n):AQ Tryz.prog 27 (.slice (some (i,o)) n c) (iv (k:Int))=some (.ptr (some (i,o+k))):=by
 have:=Ao (P:=Tryz.prog) (i:=i) (o:=o) (cap:=c) Tryz.underlying27 Ho hk
 rwa[Zf]at this
set_option maxRecDepth 20000 in
theorem Jm        {E : Bt}  (hE : A0    E) {p : Nat} {S : List Tm} {O : List Nat} {kids : List Tm} {sB : AE}  (h : AN      sB p S O) (hg : BZ   sB O) (h3 : kids.length ≤ 3) (h0 : 0 < kids.length)
    (hk:∀t∈kids,G3 t=CQ t∧∀ (s:AE) (K:AV→AE→Prop),AN s p S O→BZ s O→(∀s',B7 s.next s s'→K (.str (G3 t)) s')→WF E 26 [.ptr (some (p,0)),iv (ix S t:Int)] K s)
    {bx wb:Nat} {ec:List AV} {w:List Nat} (hbx:sB.heap.get bx=some (R 70 0 false ec)) (hbl:bx<sB.next) (hec:∀k u,kids[k]? = some u→ec[2+k]? = some (iv (ix S u:Int)))
    (hwb:sB.heap.get wb=some (R 9 1 false [.str w])) (hwl:wb<sB.next)
    (a1 a2 a4 a6 a7 a8 a9 a10 a11 a12 a16:AV) {Q:Au→Prop} {marks:List Nat}
    (hend:∀ (y6 y16 v5:AV) s' OB,B7 sB.next sB s'→F3 9 1 s' v5 (kids.length+1) (CC (w::kids.map CQ)) OB →
      A2 1 Q ⟨.exit 1,[.ptr (some (p,0)),a1,a2,.ptr (some (bx,0)),a4,v5,y6,a7,a8,a9,a10,a11,a12,.slice (some (bx,2)) kids.length (some 3),iv (kids.length:Int),iv (kids.length:Int),y16],marks,s'⟩):
    WC E none (Ai.loop Ec) (A2 1 Q) [.ptr (some (p,0)),a1,a2,.ptr (some (bx,0)),a4,.slice (some (wb,0)) 1 (some 1),a6,a7,a8,a9,a10,a11,a12,.slice (some (bx,2)) kids.length (some 3),iv (kids.length:Int),iv 0,a16] marks sB:=by
  have hread:∀ (s2:AE),B7 sB.next sB s2→∀k u,kids[k]? = some u→Cz (s2.heap.get bx) (2+k)=some (iv (ix S u:Int)):=fun s2 ho k u hu=>by
    rw[ho.2 bx hbl,hbx,Wi];exact hec k u hu
  have key:∀ (d k:Nat) (s2:AE) (v5:AV) OB (b6 b16:AV),d+k=kids.length→1≤k→B7 sB.next sB s2→F3 9 1 s2 v5 (k+1) (CC (w::(kids.take k).map CQ)) OB→(∀j∈OB,sB.next≤j) →
      WC E none (Ai.loop Ec) (A2 1 Q) [.ptr (some (p,0)),a1,a2,.ptr (some (bx,0)),a4,v5,b6,a7,a8,a9,a10,a11,a12,.slice (some (bx,2)) kids.length (some 3),iv (kids.length:Int),iv (k:Int),b16] marks s2:=by
    intro d
    induction d with
    | zero =>
      intro k s2 v5 OB b6 b16 hd _ ho hb hO
      have hk':k=kids.length:=by omega
      subst hk'
      refine WC.loop' ?_
      have hlt:¬ ((kids.length:Int)<(kids.length:Int)):=by omega
      rw[Zo (Y9 _)]at hb
      simp only[Ec,J0,Qa,Qb,Qc,Qd,Qe,Qf,Qg,Qh,Qi,Qj,Qk,Ql,Qm,Qn,true_and,and_true,Qo,Qp,Qq,Qr,Qs,Qt,Qu,Qv,Qw,Qx,Qy,Qz,Ra,Rb,Rc,Rd,Re,Rf,Rg,Rh,Ri,Rj,Rk,Rl,Rm,Ya,Yb,Yc,Rn,Ro,Xv,Yd,Ye,Rq,Rs,Rt,Ru,Rw,Rx,Ry,Rq,hlt,decide_false]
      exact hend _ _ _ _ _ ho hb
    | succ d ih =>
      intro k s2 v5 OB b6 b16 hd hk1 ho hb hO
      have hkl:k<kids.length:=by omega
      obtain⟨u,hu⟩:∃u,kids[k]? = some u:=⟨_,ZP hkl⟩
      have hum:=ZZ hu
      have hlt:(k:Int)<(kids.length:Int):=by omega
      have hadd:i64 ((k:Int)+1):=by unfold i64;omega
      have hld:=hread s2 ho k u hu
      refine WC.loop' ?_
      obtain⟨W,hW⟩:∃W,W=Ai.loop Ec:=⟨_,rfl⟩
      rw[← hW]
      simp only[Ec,J0,ME,MF,Qa,Qb,Qc,Qd,Qe,Qf,Qg,Qh,Qi,Qj,Qk,Ql,Qm,Qn,true_and,and_true,Qo,Qp,Qq,Qr,Qs,Qt,Qu,Qv,Qw,Qx,Qy,Qz,Ra,Rb,Rc,Rd,Re,Rf,Rg,Rh,Ri,Rj,Rk,Rl,Rm,Ya,Yb,Yc,Rn,Ro,Xv,Yd,Ye,Rq,Rs,Rt,Ru,Rw,Rx,Ry,Rq,hlt,decide_true,Ni hkl,Dx,hld,Rz,Wa,Wb,Wc,Wd,We,Wf,Wg,Wh,Wi,Wj,Wl,Wm,Wn,Wp,Wq,Wr,Ws,Wt,Wu,Wv,Ww,Wx,Wy,Wz,Xa,Xb,Xc,Xd,Xe,Xf,Xg,Xh,Xi,Xj,Xk,Xl,Xm,Xn,Xo,Xp,Xq,Xr,ZC,ZF,ZE,ZD,ZH,ZI,List.getElem?_cons_zero,List.getElem?_cons_succ,ZG,ZJ,ZK,ZL,ZB,Nat.reduceAdd,Nat.reduceLT,Nat.reduceLeDiff,decide_true,decide_false,Bool.true_and,Bool.and_true,ZM,Y9,Option.some.injEq,Xs,Xt,Xu,Xv]
      refine(hk u hum).2 s2 _ (h.old ho) (hg.old ho) fun s3 ho3=>?_
      rw[(hk u hum).1]
      have hb3:=hb.frame (s':=s3) ho3.1 fun j hj=>ho3.2 j (hb.lt j hj)
      have hbl:=hb.lt
      have hso:=ho.1
      have hln:(w::(kids.take k).map CQ).length=k+1:=by simp;omega
      rw[← hln]at hb3
      obtain⟨v2,s4,OB2,e1,e2,e3,e4,e5⟩:=PY hb3 (CQ u) (by omega)
      have ho34:=ho3.1
      have:=ih (k+1) s4 v2 OB2 (iv (ix S u:Int)) (.bool true) (by omega) (by omega) ⟨by omega,fun j hj=>?_⟩ (by
          have hl2:(w::(kids.take k).map CQ++[CQ u]).length=k+1+1:=by simp;omega
          rw[hl2]at e2
          rw[List.take_succ_eq_append_getElem hkl,show kids[k]=u from by rw[ZP hkl]at hu;injection hu,Zz]
          exact e2) (fun j hj=>?_)
      · rw[← hW,show((k+1:Nat):Int)=(k:Int)+1 from by omega]at this
        simp only[Qa,Qb,Qc,Qd,Qe,Qf,Qg,Qh,Qi,Qj,Qk,Ql,Qm,Qn,true_and,and_true,Qo,Qp,Qq,Qr,Qs,Qt,Qu,Qv,Qw,Qx,Qy,Qz,Ra,Rb,Rc,Rd,Re,Rf,Rg,Rh,Ri,Rj,Rk,Rl,Rm,Ya,Yb,Yc,Rn,Ro,Xv,Yd,Ye,Rq,Rs,Rt,Ru,Rw,Rx,Ry,GS,e1,MG,By _ _ _ _ hadd,Rz,Wa,Wb,Wc,Wd,We,Wf,Wg,Wh,Wi,Wj,Wl,Wm,Wn,Wp,Wq,Wr,Ws,Wt,Wu,Wv,Ww,Wx,Wy,Wz,Xa,Xb,Xc,Xd,Xe,Xf,Xg,Xh,Xi,Xj,Xk,Xl,Xm,Xn,Xo,Xp,Xq,Xr,ZC,ZF,ZE,ZD,ZH,ZI,List.getElem?_cons_zero,List.getElem?_cons_succ,ZG,ZJ,ZK,ZL,ZB,Nat.reduceAdd,Nat.reduceLT,Nat.reduceLeDiff,decide_true,decide_false,Bool.true_and,Bool.and_true,ZM,Y9,Option.some.injEq,Xs,Xt,Xu,Xv]
        exact this
      · rw[e4 j (by omega) (fun hm=>by have:=hO j hm;omega),ho3.2 j (by omega),ho.2 j hj]
      · exact(e5 j hj).elim (hO j) (fun hl=>by omega)
  obtain⟨u,hu⟩:∃u,kids[0]? = some u:=⟨_,ZP h0⟩
  have hum:=ZZ hu
  have hlt:(0:Int)<(kids.length:Int):=by omega
  have hld:=hread sB (B7.refl _ _) 0 u hu
  have hix0:=Ni (i:=bx) (o:=2) (c:=some 3) h0
  have hadd:i64 ((0:Int)+1):=by unfold i64;omega
  refine WC.loop' ?_
  obtain⟨W,hW⟩:∃W,W=Ai.loop Ec:=⟨_,rfl⟩
  rw[← hW]
  have hix0:AQ Tryz.prog 27 (.slice (some (bx,2)) kids.length (some 3)) (iv 0)=some (.ptr (some (bx,2+0))):=hix0
  simp only[Ec,J0,ME,MF,Qa,Qb,Qc,Qd,Qe,Qf,Qg,Qh,Qi,Qj,Qk,Ql,Qm,Qn,true_and,and_true,Qo,Qp,Qq,Qr,Qs,Qt,Qu,Qv,Qw,Qx,Qy,Qz,Ra,Rb,Rc,Rd,Re,Rf,Rg,Rh,Ri,Rj,Rk,Rl,Rm,Ya,Yb,Yc,Rn,Ro,Xv,Yd,Ye,Rq,Rs,Rt,Ru,Rw,Rx,Ry,Rq,hlt,decide_true,hix0,Dx,hld,Rz,Wa,Wb,Wc,Wd,We,Wf,Wg,Wh,Wi,Wj,Wl,Wm,Wn,Wp,Wq,Wr,Ws,Wt,Wu,Wv,Ww,Wx,Wy,Wz,Xa,Xb,Xc,Xd,Xe,Xf,Xg,Xh,Xi,Xj,Xk,Xl,Xm,Xn,Xo,Xp,Xq,Xr,ZC,ZF,ZE,ZD,ZH,ZI,List.getElem?_cons_zero,List.getElem?_cons_succ,ZG,ZJ,ZK,ZL,ZB,Nat.reduceAdd,Nat.reduceLT,Nat.reduceLeDiff,decide_true,decide_false,Bool.true_and,Bool.and_true,ZM,Y9,Option.some.injEq,Xs,Xt,Xu,Xv]
  refine(hk u hum).2 sB _ h hg fun s3 ho3=>?_
  rw[(hk u hum).1]
  have hn3:=ho3.1
  have hhead:=PX (s:=newObj s3 (R 9 1 false [.str (CQ u)])) (i:=wb) (j:=s3.next) (x:=w) (y:=CQ u) (by rw[BG,if_neg (by omega),ho3.2 wb hwl];exact hwb) (by rw[BG,if_pos rfl])
  have hs4:∀j,j<s3.next→(newObj (newObj s3 (R 9 1 false [.str (CQ u)])) (R 9 1 true [.str w,.str (CQ u)])).heap.get j=s3.heap.get j:=fun j hj=>by
    rw[BG,if_neg (by show j≠s3.next+1;omega),BG,if_neg (by omega)]
  have:=key (kids.length - 1) 1 (newObj (newObj s3 (R 9 1 false [.str (CQ u)])) (R 9 1 true [.str w,.str (CQ u)])) (.slice (some (s3.next+1,0)) 2 none) [s3.next+1] (iv (ix S u:Int)) (.bool true) (by omega) (Y9 _) ⟨Za hn3 (by show s3.next≤s3.next+1+1;omega),fun j hj=>by rw[hs4 j (by omega),ho3.2 j hj]⟩ (by
      rw[show kids.take 1=[u]from by rw[List.take_succ_eq_append_getElem h0,show kids[0]=u from by rw[ZP h0]at hu;injection hu];rfl]
      exact S5 (l:=[w,CQ u]) (by rw[BG];exact if_pos rfl) (Zs _)) (fun j hj=>by rw[List.mem_singleton.1 hj];omega)
  rw[← hW]at this
  simp only[Qa,Qb,Qc,Qd,Qe,Qf,Qg,Qh,Qi,Qj,Qk,Ql,Qm,Qn,true_and,and_true,Qo,Qp,Qq,Qr,Qs,Qt,Qu,Qv,Qw,Qx,Qy,Qz,Ra,Rb,Rc,Rd,Re,Rf,Rg,Rh,Ri,Rj,Rk,Rl,Rm,Ya,Yb,Yc,Rn,Ro,Xv,Yd,Ye,Rq,Rs,Rt,Ru,Rw,Rx,Ry,GS,hhead,MG,By _ _ _ _ hadd,Rz,Wa,Wb,Wc,Wd,We,Wf,Wg,Wh,Wi,Wj,Wl,Wm,Wn,Wp,Wq,Wr,Ws,Wt,Wu,Wv,Ww,Wx,Wy,Wz,Xa,Xb,Xc,Xd,Xe,Xf,Xg,Xh,Xi,Xj,Xk,Xl,Xm,Xn,Xo,Xp,Xq,Xr,ZC,ZF,ZE,ZD,ZH,ZI,List.getElem?_cons_zero,List.getElem?_cons_succ,ZG,ZJ,ZK,ZL,ZB,Nat.reduceAdd,Nat.reduceLT,Nat.reduceLeDiff,decide_true,decide_false,Bool.true_and,Bool.and_true,ZM,Y9,Option.some.injEq,Xs,Xt,Xu,Xv]
  exact this
set_option maxRecDepth 20000 in
theorem T7      {E : Bt}  (hE : A0    E) {p : Nat} {S : List Tm} {O : List Nat} (hT : Told S) : ∀ (n : Nat) (t : Tm), ix S t < n → t ∈ S → ∀ (s : AE)  (K : AV → AE  → Prop), AN      s p S O → BZ   s O → (∀ s', B7  s.next s s' → K (.str (G3   t)) s') →
    WF E 26 [.ptr (some (p,0)),iv (ix S t:Int)] K s:=by
  intro n
  induction n with
  | zero=>intro t h;omega
  | succ n ihn =>
    intro t hn ht s K h hg hK
    obtain⟨c0,c1,c2,c3,c4,c5,c6,hc,d0,d1,d2,d3,d4,d5,d6⟩:=t.cells7 (h.ok.ok t ht)
    refine hE.go J5 (by decide) rfl ?_
    simp only[XJ,Kz,K0,Qa,Qb,Qc,Qd,Qe,Qf,Qg,Qh,Qi,Qj,Qk,Ql,Qm,Qn,true_and,and_true,Qo,Qp,Qq,Qr,Qs,Qt,Qu,Qv,Qw,Qx,Qy,Qz,Ra,Rb,Rc,Rd,Re,Rf,Rg,Rh,Ri,Rj,Rk,Rl,Rm,Ya,Yb,Yc,Rn,Ro,Xv,Yd,Ye,Rq,Rs,Rt,Ru,Rw,Rx,Ry]
    refine NG hE h ht fun r s1 ho1 he=>?_
    obtain⟨m,rfl,_,_⟩:=he
    have hent:A7 S t m=[iv t.kind,iv t.id,iv (part S t 0),iv (part S t 1),iv (part S t 2),.str t.ktext,c0,c1,c2,c3,c4,c5,c6,iv (t.kids.length:Int),iv (t.sz:Int),.map (some m)]:=by
      simp only[A7,BB,hc,ZE,ZD]
    rw[hent]
    have hg1:=hg.old ho1
    have h1:=h.old ho1
    have hend:∀s',B7 s1.next s1 s'→K (.str (G3 t)) s':=fun s' h'=>hK s' (ho1.trans (h'.mono ho1.1))
    generalize hs1:s1.next=b at hend
    have hs10:s1=ext s1 []:=(AZ s1).symm
    have hxo:∀os,B7 b s1 (ext s1 os):=fun os=>by rw[← hs1];exact AK
    rw[hs10]
    by_cases hz:4096<t.sz
    · have hd : decide ((4096 : Int) < (t.sz : Int)) = true := decide_eq_true (by omega)
      have he:G3 t=[]:=if_pos hz
      rw[he]at hend
      simp only[Qa,Qb,Qc,Qd,Qe,Qf,Qg,Qh,Qi,Qj,Qk,Ql,Qm,Qn,true_and,and_true,Qo,Qp,Qq,Qr,Qs,Qt,Qu,Qv,Qw,Qx,Qy,Qz,Ra,Rb,Rc,Rd,Re,Rf,Rg,Rh,Ri,Rj,Rk,Rl,Rm,Ya,Yb,Yc,Rn,Ro,Xv,Yd,Ye,Rq,Rs,Rt,Ru,Rw,Rx,Ry,-Qu,-Qv,hs1,G5,ER,F9,d0,d1,d2,d3,d4,d5,d6,JJ,BR,II,Dx,Rs,hd,Rz,Wa,Wb,Wc,Wd,We,Wf,Wg,Wh,Wi,Wj,Wl,Wm,Wn,Wp,Wq,Wr,Ws,Wt,Wu,Wv,Ww,Wx,Wy,Wz,Xa,Xb,Xc,Xd,Xe,Xf,Xg,Xh,Xi,Xj,Xk,Xl,Xm,Xn,Xo,Xp,Xq,Xr,ZC,ZF,ZE,ZD,ZH,ZI,List.getElem?_cons_zero,List.getElem?_cons_succ,ZG,ZJ,ZK,ZL,ZB,Nat.reduceAdd,Nat.reduceLT,Nat.reduceLeDiff,decide_true,decide_false,Bool.true_and,Bool.and_true,ZM,Y9,Option.some.injEq,Xs,Xt,Xu,Xv]
      rw[Qu]
      simp only[Px,Qa,Qb,Qc,Qd,Qe,Qf,Qg,Qh,Qi,Qj,Qk,Ql,Qm,Qn,true_and,and_true,Qo,Qp,Qq,Qr,Qs,Qt,Qu,Qv,Qw,Qx,Qy,Qz,Ra,Rb,Rc,Rd,Re,Rf,Rg,Rh,Ri,Rj,Rk,Rl,Rm,Ya,Yb,Yc,Rn,Ro,Xv,Yd,Ye,Rq,Rs,Rt,Ru,Rw,Rx,Ry]
      exact hend _ (hxo _)
    · have hd : decide ((4096 : Int) < (t.sz : Int)) = false := decide_eq_false (by omega)
      have he:G3 t=CQ t:=if_neg hz
      rw[he]at hend
      simp only[Qa,Qb,Qc,Qd,Qe,Qf,Qg,Qh,Qi,Qj,Qk,Ql,Qm,Qn,true_and,and_true,Qo,Qp,Qq,Qr,Qs,Qt,Qu,Qv,Qw,Qx,Qy,Qz,Ra,Rb,Rc,Rd,Re,Rf,Rg,Rh,Ri,Rj,Rk,Rl,Rm,Ya,Yb,Yc,Rn,Ro,Xv,Yd,Ye,Rq,Rs,Rt,Ru,Rw,Rx,Ry,-Qu,-Qv,hs1,G5,ER,F9,d0,d1,d2,d3,d4,d5,d6,JJ,BR,II,Dx,Rs,hd,Rz,Wa,Wb,Wc,Wd,We,Wf,Wg,Wh,Wi,Wj,Wl,Wm,Wn,Wp,Wq,Wr,Ws,Wt,Wu,Wv,Ww,Wx,Wy,Wz,Xa,Xb,Xc,Xd,Xe,Xf,Xg,Xh,Xi,Xj,Xk,Xl,Xm,Xn,Xo,Xp,Xq,Xr,ZC,ZF,ZE,ZD,ZH,ZI,List.getElem?_cons_zero,List.getElem?_cons_succ,ZG,ZJ,ZK,ZL,ZB,Nat.reduceAdd,Nat.reduceLT,Nat.reduceLeDiff,decide_true,decide_false,Bool.true_and,Bool.and_true,ZM,Y9,Option.some.injEq,Xs,Xt,Xu,Xv]
      rw[Qv]
      cases t with
      | var i =>
        have hi:=hT.1 i ht
        have hil:=(DF hi).2
        simp only[Tm.kind,Tm.id,G8,G9,HA,Ul,Qa,Qb,Qc,Qd,Qe,Qf,Qg,Qh,Qi,Qj,Qk,Ql,Qm,Qn,true_and,and_true,Qo,Qp,Qq,Qr,Qs,Qt,Qu,Qv,Qw,Qx,Qy,Qz,Ra,Rb,Rc,Rd,Re,Rf,Rg,Rh,Ri,Rj,Rk,Rl,Rm,Ya,Yb,Yc,Rn,Ro,Xv,Yd,Ye,Rq,Rs,Rt,Ru,Rw,Rx,Ry,hs1,Be,Bg,Ct,Dx,Rw,Int.reduceEq,Rz,Wa,Wb,Wc,Wd,We,Wf,Wg,Wh,Wi,Wj,Wl,Wm,Wn,Wp,Wq,Wr,Ws,Wt,Wu,Wv,Ww,Wx,Wy,Wz,Xa,Xb,Xc,Xd,Xe,Xf,Xg,Xh,Xi,Xj,Xk,Xl,Xm,Xn,Xo,Xp,Xq,Xr,ZC,ZF,ZE,ZD,ZH,ZI,List.getElem?_cons_zero,List.getElem?_cons_succ,ZG,ZJ,ZK,ZL,ZB,Nat.reduceAdd,Nat.reduceLT,Nat.reduceLeDiff,decide_true,decide_false,Bool.true_and,Bool.and_true,ZM,Y9,Option.some.injEq,Xs,Xt,Xu,Xv]
        refine Gk hE (by rw[DB (Wh hg1.2.1)];exact hg1.1) hi ?_
        simp only[Qa,Qb,Qc,Qd,Qe,Qf,Qg,Qh,Qi,Qj,Qk,Ql,Qm,Qn,true_and,and_true,Qo,Qp,Qq,Qr,Qs,Qt,Qu,Qv,Qw,Qx,Qy,Qz,Ra,Rb,Rc,Rd,Re,Rf,Rg,Rh,Ri,Rj,Rk,Rl,Rm,Ya,Yb,Yc,Rn,Ro,Xv,Yd,Ye,Rq,Rs,Rt,Ru,Rw,Rx,Ry,F7 (x:=[120]) (y:=Cy i) (by simp;omega)]
        exact hend _ (hxo _)
      | bnd i =>
        have hi:=hT.2 i ht
        have hil:=(DF hi).2
        simp only[Tm.kind,Tm.id,G8,G9,HA,H3,Py,Qa,Qb,Qc,Qd,Qe,Qf,Qg,Qh,Qi,Qj,Qk,Ql,Qm,Qn,true_and,and_true,Qo,Qp,Qq,Qr,Qs,Qt,Qu,Qv,Qw,Qx,Qy,Qz,Ra,Rb,Rc,Rd,Re,Rf,Rg,Rh,Ri,Rj,Rk,Rl,Rm,Ya,Yb,Yc,Rn,Ro,Xv,Yd,Ye,Rq,Rs,Rt,Ru,Rw,Rx,Ry,hs1,Be,Bg,Ct,Dx,Rw,Int.reduceEq,Rz,Wa,Wb,Wc,Wd,We,Wf,Wg,Wh,Wi,Wj,Wl,Wm,Wn,Wp,Wq,Wr,Ws,Wt,Wu,Wv,Ww,Wx,Wy,Wz,Xa,Xb,Xc,Xd,Xe,Xf,Xg,Xh,Xi,Xj,Xk,Xl,Xm,Xn,Xo,Xp,Xq,Xr,ZC,ZF,ZE,ZD,ZH,ZI,List.getElem?_cons_zero,List.getElem?_cons_succ,ZG,ZJ,ZK,ZL,ZB,Nat.reduceAdd,Nat.reduceLT,Nat.reduceLeDiff,decide_true,decide_false,Bool.true_and,Bool.and_true,ZM,Y9,Option.some.injEq,Xs,Xt,Xu,Xv]
        refine Gk hE (by rw[DB (Wh hg1.2.1)];exact hg1.1) hi ?_
        simp only[Qa,Qb,Qc,Qd,Qe,Qf,Qg,Qh,Qi,Qj,Qk,Ql,Qm,Qn,true_and,and_true,Qo,Qp,Qq,Qr,Qs,Qt,Qu,Qv,Qw,Qx,Qy,Qz,Ra,Rb,Rc,Rd,Re,Rf,Rg,Rh,Ri,Rj,Rk,Rl,Rm,Ya,Yb,Yc,Rn,Ro,Xv,Yd,Ye,Rq,Rs,Rt,Ru,Rw,Rx,Ry,F7 (x:=[98]) (y:=Cy i) (by simp;omega)]
        exact hend _ (hxo _)
      | con k =>
        simp only[Tm.kind,Tm.id,G8,G9,HA,H3,H2,MA,Qa,Qb,Qc,Qd,Qe,Qf,Qg,Qh,Qi,Qj,Qk,Ql,Qm,Qn,true_and,and_true,Qo,Qp,Qq,Qr,Qs,Qt,Qu,Qv,Qw,Qx,Qy,Qz,Ra,Rb,Rc,Rd,Re,Rf,Rg,Rh,Ri,Rj,Rk,Rl,Rm,Ya,Yb,Yc,Rn,Ro,Xv,Yd,Ye,Rq,Rs,Rt,Ru,Rw,Rx,Ry,hs1,Be,Bg,RF,Dx,Yn,Rw,Int.reduceEq,Rz,Wa,Wb,Wc,Wd,We,Wf,Wg,Wh,Wi,Wj,Wl,Wm,Wn,Wp,Wq,Wr,Ws,Wt,Wu,Wv,Ww,Wx,Wy,Wz,Xa,Xb,Xc,Xd,Xe,Xf,Xg,Xh,Xi,Xj,Xk,Xl,Xm,Xn,Xo,Xp,Xq,Xr,ZC,ZF,ZE,ZD,ZH,ZI,List.getElem?_cons_zero,List.getElem?_cons_succ,ZG,ZJ,ZK,ZL,ZB,Nat.reduceAdd,Nat.reduceLT,Nat.reduceLeDiff,decide_true,decide_false,Bool.true_and,Bool.and_true,ZM,Y9,Option.some.injEq,Xs,Xt,Xu,Xv]
        exact hend _ (hxo _)
      | sel d k =>
        simp only[Tm.kind,Tm.id,G8,G9,HA,H3,H2,MB,Pw,MC,MD,Qa,Qb,Qc,Qd,Qe,Qf,Qg,Qh,Qi,Qj,Qk,Ql,Qm,Qn,true_and,and_true,Qo,Qp,Qq,Qr,Qs,Qt,Qu,Qv,Qw,Qx,Qy,Qz,Ra,Rb,Rc,Rd,Re,Rf,Rg,Rh,Ri,Rj,Rk,Rl,Rm,Ya,Yb,Yc,Rn,Ro,Xv,Yd,Ye,Rq,Rs,Rt,Ru,Rw,Rx,Ry,hs1,Be,IH,Bg,IG,Dx,Rw,Int.reduceEq,GS,OC (KG (Tm.sel d k)),A8 Tryz.underlying27,Rz,Wa,Wb,Wc,Wd,We,Wf,Wg,Wh,Wi,Wj,Wl,Wm,Wn,Wp,Wq,Wr,Ws,Wt,Wu,Wv,Ww,Wx,Wy,Wz,Xa,Xb,Xc,Xd,Xe,Xf,Xg,Xh,Xi,Xj,Xk,Xl,Xm,Xn,Xo,Xp,Xq,Xr,ZC,ZF,ZE,ZD,ZH,ZI,List.getElem?_cons_zero,List.getElem?_cons_succ,ZG,ZJ,ZK,ZL,ZB,Nat.reduceAdd,Nat.reduceLT,Nat.reduceLeDiff,decide_true,decide_false,Bool.true_and,Bool.and_true,ZM,Y9,Option.some.injEq,Xs,Xt,Xu,Xv]
        have hkz:∀u∈(Tm.sel d k).kids,G3 u=CQ u∧∀ (s:AE) (K:AV→AE→Prop),AN s p S O→BZ s O→(∀s',B7 s.next s s'→K (.str (G3 u)) s')→WF E 26 [.ptr (some (p,0)),iv (ix S u:Int)] K s:=fun u hu =>
          ⟨if_neg (by have:=R8 hu (by omega);omega),ihn u (by have:=(h.ok.kid ht hu).2;omega) (h.ok.kid ht hu).1⟩
        have hlen:=Dj h.ok hT _ ht (by omega)
        refine Jm hE (h1.old (AK (s:=s1))) (hg1.old (AK (s:=s1))) (by simp[Tm.kids]) (by simp[Tm.kids]) hkz (bx:=nid b 0) (wb:=nid b 1) (w:=[40,103,101,116]) (by rw[Wg hs1 (by simp)];rfl) (by rw[Wm,hs1,AH,AH];simp) (fun j u hu=>?_) (by rw[Wg hs1 (by simp)];rfl) (by rw[Wm,hs1,AH,AH];simp) _ _ _ _ _ _ _ _ _ _ _ (fun y6 y16 v5 s' OB ho' hb'=>?_)
        · have hj3:j<3:=by
            rcases ZO j (Tm.sel d k).kids.length with h' | h'
            · have:=h';simp only[Tm.kids,ZC,ZF]at this;omega
            · rw[ZT h']at hu;cases hu
          have hpk:part S (Tm.sel d k) j=(ix S u:Int):=by unfold part;rw[hu]
          have:j=0∨j=1∨j=2:=by omega
          rcases this with rfl | rfl | rfl<;>simp[hpk]
        · simp only[Qa,Qb,Qc,Qd,Qe,Qf,Qg,Qh,Qi,Qj,Qk,Ql,Qm,Qn,true_and,and_true,Qo,Qp,Qq,Qr,Qs,Qt,Qu,Qv,Qw,Qx,Qy,Qz,Ra,Rb,Rc,Rd,Re,Rf,Rg,Rh,Ri,Rj,Rk,Rl,Rm,Ya,Yb,Yc,Rn,Ro,Xv,Yd,Ye,Rq,Rs,Rt,Ru,Rw,Rx,Ry]
          rw[if_pos trivial]
          rcases hb'.row with⟨_,hz0,_⟩ | ⟨j,r,rfl,hjO,hjr,hh⟩
          · omega
          have hld:Bs (s'.heap.get j) 0 ((Tm.sel d k).kids.length+1)=some (CC ([40,103,101,116]::(Tm.sel d k).kids.map CQ)):=by
            rw[hjr,Hi hh (by simp[CC]),ZG,Zo (by simp[CC])]
          have hj:Gn s' [.slice (some (j,0)) ((Tm.sel d k).kids.length+1) none,.str [32]]=some (.str (CU ([40,103,101,116]::(Tm.sel d k).kids.map CQ) [32]),s'):=by
            have hst:∀l:List (List Nat),GY (CC l)=some l:=fun l=>by
              induction l with
              | nil=>rfl
              | cons x l ih=>show(GY (CC l)).bind _=_;rw[ih];rfl
            show(A9 s' j 0 _).bind _=_
            rw[DD,hld,Option.bind_some,hst,Option.bind_some]
            have hle:(CU ([40,103,101,116]::(Tm.sel d k).kids.map CQ) [32]).length≤1000000:=by
              have:CU ([40,103,101,116]::(Tm.sel d k).kids.map CQ) [32]++[41]=CQ (Tm.sel d k):=by simp[CU,Bc,Tm.kids,CQ]
              have h2:=congrArg List.length this
              rw[Ze]at h2
              omega
            rw[BS hle,BS (show(Tm.sel d k).kids.length+1≤1000000 by simp[Tm.kids])]
            rfl
          have hfin:CU ([40,103,101,116]::(Tm.sel d k).kids.map CQ) [32]++[41]=CQ (Tm.sel d k):=by simp[CU,Bc,Tm.kids,CQ]
          have hadl:(CU ([40,103,101,116]::(Tm.sel d k).kids.map CQ) [32]).length+[41].length≤1000000000:=by
            have h2:=congrArg List.length hfin
            rw[Ze]at h2
            omega
          simp only[MH,Qa,Qb,Qc,Qd,Qe,Qf,Qg,Qh,Qi,Qj,Qk,Ql,Qm,Qn,true_and,and_true,Qo,Qp,Qq,Qr,Qs,Qt,Qu,Qv,Qw,Qx,Qy,Qz,Ra,Rb,Rc,Rd,Re,Rf,Rg,Rh,Ri,Rj,Rk,Rl,Rm,Ya,Yb,Yc,Rn,Ro,Xv,Yd,Ye,Rq,Rs,Rt,Ru,Rw,Rx,Ry]
          refine WF.native (hE.tab _ _ _ _ (by rw[JY];exact hj)) ?_
          simp only[Qa,Qb,Qc,Qd,Qe,Qf,Qg,Qh,Qi,Qj,Qk,Ql,Qm,Qn,true_and,and_true,Qo,Qp,Qq,Qr,Qs,Qt,Qu,Qv,Qw,Qx,Qy,Qz,Ra,Rb,Rc,Rd,Re,Rf,Rg,Rh,Ri,Rj,Rk,Rl,Rm,Ya,Yb,Yc,Rn,Ro,Xv,Yd,Ye,Rq,Rs,Rt,Ru,Rw,Rx,Ry,F7 hadl,hfin]
          exact hend _ ((hxo _).trans (ho'.mono (by rw[Wm,hs1,AH];omega)))
      | upd d k a =>
        simp only[Tm.kind,Tm.id,G8,G9,HA,H3,H2,MB,MC,MD,Qa,Qb,Qc,Qd,Qe,Qf,Qg,Qh,Qi,Qj,Qk,Ql,Qm,Qn,true_and,and_true,Qo,Qp,Qq,Qr,Qs,Qt,Qu,Qv,Qw,Qx,Qy,Qz,Ra,Rb,Rc,Rd,Re,Rf,Rg,Rh,Ri,Rj,Rk,Rl,Rm,Ya,Yb,Yc,Rn,Ro,Xv,Yd,Ye,Rq,Rs,Rt,Ru,Rw,Rx,Ry,hs1,Be,IH,Bg,IG,Dx,Rw,Int.reduceEq,GS,OC (KG (Tm.upd d k a)),A8 Tryz.underlying27,Rz,Wa,Wb,Wc,Wd,We,Wf,Wg,Wh,Wi,Wj,Wl,Wm,Wn,Wp,Wq,Wr,Ws,Wt,Wu,Wv,Ww,Wx,Wy,Wz,Xa,Xb,Xc,Xd,Xe,Xf,Xg,Xh,Xi,Xj,Xk,Xl,Xm,Xn,Xo,Xp,Xq,Xr,ZC,ZF,ZE,ZD,ZH,ZI,List.getElem?_cons_zero,List.getElem?_cons_succ,ZG,ZJ,ZK,ZL,ZB,Nat.reduceAdd,Nat.reduceLT,Nat.reduceLeDiff,decide_true,decide_false,Bool.true_and,Bool.and_true,ZM,Y9,Option.some.injEq,Xs,Xt,Xu,Xv]
        have hkz:∀u∈(Tm.upd d k a).kids,G3 u=CQ u∧∀ (s:AE) (K:AV→AE→Prop),AN s p S O→BZ s O→(∀s',B7 s.next s s'→K (.str (G3 u)) s')→WF E 26 [.ptr (some (p,0)),iv (ix S u:Int)] K s:=fun u hu =>
          ⟨if_neg (by have:=R8 hu (by omega);omega),ihn u (by have:=(h.ok.kid ht hu).2;omega) (h.ok.kid ht hu).1⟩
        have hlen:=Dj h.ok hT _ ht (by omega)
        refine Jm hE (h1.old (AK (s:=s1))) (hg1.old (AK (s:=s1))) (by simp[Tm.kids]) (by simp[Tm.kids]) hkz (bx:=nid b 0) (wb:=nid b 1) (w:=[40,115,101,116]) (by rw[Wg hs1 (by simp)];rfl) (by rw[Wm,hs1,AH,AH];simp) (fun j u hu=>?_) (by rw[Wg hs1 (by simp)];rfl) (by rw[Wm,hs1,AH,AH];simp) _ _ _ _ _ _ _ _ _ _ _ (fun y6 y16 v5 s' OB ho' hb'=>?_)
        · have hj3:j<3:=by
            rcases ZO j (Tm.upd d k a).kids.length with h' | h'
            · have:=h';simp only[Tm.kids,ZC,ZF]at this;omega
            · rw[ZT h']at hu;cases hu
          have hpk:part S (Tm.upd d k a) j=(ix S u:Int):=by unfold part;rw[hu]
          have:j=0∨j=1∨j=2:=by omega
          rcases this with rfl | rfl | rfl<;>simp[hpk]
        · simp only[Qa,Qb,Qc,Qd,Qe,Qf,Qg,Qh,Qi,Qj,Qk,Ql,Qm,Qn,true_and,and_true,Qo,Qp,Qq,Qr,Qs,Qt,Qu,Qv,Qw,Qx,Qy,Qz,Ra,Rb,Rc,Rd,Re,Rf,Rg,Rh,Ri,Rj,Rk,Rl,Rm,Ya,Yb,Yc,Rn,Ro,Xv,Yd,Ye,Rq,Rs,Rt,Ru,Rw,Rx,Ry]
          rw[if_pos trivial]
          rcases hb'.row with⟨_,hz0,_⟩ | ⟨j,r,rfl,hjO,hjr,hh⟩
          · omega
          have hld:Bs (s'.heap.get j) 0 ((Tm.upd d k a).kids.length+1)=some (CC ([40,115,101,116]::(Tm.upd d k a).kids.map CQ)):=by
            rw[hjr,Hi hh (by simp[CC]),ZG,Zo (by simp[CC])]
          have hj:Gn s' [.slice (some (j,0)) ((Tm.upd d k a).kids.length+1) none,.str [32]]=some (.str (CU ([40,115,101,116]::(Tm.upd d k a).kids.map CQ) [32]),s'):=by
            have hst:∀l:List (List Nat),GY (CC l)=some l:=fun l=>by
              induction l with
              | nil=>rfl
              | cons x l ih=>show(GY (CC l)).bind _=_;rw[ih];rfl
            show(A9 s' j 0 _).bind _=_
            rw[DD,hld,Option.bind_some,hst,Option.bind_some]
            have hle:(CU ([40,115,101,116]::(Tm.upd d k a).kids.map CQ) [32]).length≤1000000:=by
              have:CU ([40,115,101,116]::(Tm.upd d k a).kids.map CQ) [32]++[41]=CQ (Tm.upd d k a):=by simp[CU,Bc,Tm.kids,CQ]
              have h2:=congrArg List.length this
              rw[Ze]at h2
              omega
            rw[BS hle,BS (show(Tm.upd d k a).kids.length+1≤1000000 by simp[Tm.kids])]
            rfl
          have hfin:CU ([40,115,101,116]::(Tm.upd d k a).kids.map CQ) [32]++[41]=CQ (Tm.upd d k a):=by simp[CU,Bc,Tm.kids,CQ]
          have hadl:(CU ([40,115,101,116]::(Tm.upd d k a).kids.map CQ) [32]).length+[41].length≤1000000000:=by
            have h2:=congrArg List.length hfin
            rw[Ze]at h2
            omega
          simp only[MH,Qa,Qb,Qc,Qd,Qe,Qf,Qg,Qh,Qi,Qj,Qk,Ql,Qm,Qn,true_and,and_true,Qo,Qp,Qq,Qr,Qs,Qt,Qu,Qv,Qw,Qx,Qy,Qz,Ra,Rb,Rc,Rd,Re,Rf,Rg,Rh,Ri,Rj,Rk,Rl,Rm,Ya,Yb,Yc,Rn,Ro,Xv,Yd,Ye,Rq,Rs,Rt,Ru,Rw,Rx,Ry]
          refine WF.native (hE.tab _ _ _ _ (by rw[JY];exact hj)) ?_
          simp only[Qa,Qb,Qc,Qd,Qe,Qf,Qg,Qh,Qi,Qj,Qk,Ql,Qm,Qn,true_and,and_true,Qo,Qp,Qq,Qr,Qs,Qt,Qu,Qv,Qw,Qx,Qy,Qz,Ra,Rb,Rc,Rd,Re,Rf,Rg,Rh,Ri,Rj,Rk,Rl,Rm,Ya,Yb,Yc,Rn,Ro,Xv,Yd,Ye,Rq,Rs,Rt,Ru,Rw,Rx,Ry,F7 hadl,hfin]
          exact hend _ ((hxo _).trans (ho'.mono (by rw[Wm,hs1,AH];omega)))
theorem D9:AU Tryz.prog .eql 25 (.ptr none) (.ptr none)=some (.bool true):=by kernel_rfl
def HY:List AV:=[iv 0,iv 0,iv 0,iv 0,iv 0,.str [],.int .i64 0,.bool false,.str [],.str [],.slice none 0 (some 0),.slice none 0 (some 0),.int .i64 0,iv 0,iv 0,.map none]
def HW:List AV:=[iv 2,iv 0,iv 0,iv 0,iv 0,.str [110,117,108,108],.int .i64 0,.bool false,.str [],.str [],.slice none 0 (some 0),.slice none 0 (some 0),.int .i64 0,iv 0,iv 1,.map none]
theorem TT:Ab Tryz.prog 70 (zipIdx [] [])=some (.agg HY):=by kernel_rfl
theorem Pi:Ab Tryz.prog 70 (zipIdx [0,3] [.agg [iv 2,iv 0,iv 0,iv 0,iv 0,.str [110,117,108,108]],iv 1])=some (.agg HW):=by kernel_rfl
section
variable{E:Bt}(hE:A0 E){s:AE}{K:AV→AE→Prop}
include hE
theorem Jw{x:Int}(hK:∀s',B7 s.next s s'→K (.agg HY) s'):WF E 39 [.ptr none,iv x] K s:=by
 refine hE.go MO (by decide) rfl ?_
 generalize hs:s.next=b at hK
 have hs0:s=ext s []:=(AZ s).symm
 have hfin:∀os,K (.agg HY) (ext s os):=fun os=>hK _ (by rw[← hs];exact AK)
 rw[hs0]
 simp only[XK,K3,K4,VE,G5,hs,D9,TT,HY,F9,ER,Bq,Qa,Qb,Qc,Qd,Qe,Qf,Qg,Qh,Qi,Qj,Qk,Ql,Qm,Qn,true_and,and_true,Qo,Qp,Qq,Qr,Qs,Qt,Qu,Qv,Qw,Qx,Qy,Qz,Ra,Rb,Rc,Rd,Re,Rf,Rg,Rh,Ri,Rj,Rk,Rl,Rm,Ya,Yb,Yc,Rn,Ro,Xv,Yd,Ye,Rq,Rs,Rt,Ru,Rw,Rx,Ry,Rz,Wa,Wb,Wc,Wd,We,Wf,Wg,Wh,Wi,Wj,Wl,Wm,Wn,Wp,Wq,Wr,Ws,Wt,Wu,Wv,Ww,Wx,Wy,Wz,Xa,Xb,Xc,Xd,Xe,Xf,Xg,Xh,Xi,Xj,Xk,Xl,Xm,Xn,Xo,Xp,Xq,Xr,ZC,ZF,ZE,ZD,ZH,ZI,List.getElem?_cons_zero,List.getElem?_cons_succ,ZG,ZJ,ZK,ZL,ZB,Nat.reduceAdd,Nat.reduceLT,Nat.reduceLeDiff,decide_true,decide_false,Bool.true_and,Bool.and_true,ZM,Y9,Option.some.injEq,Xs,Xt,Xu,Xv]at hfin ⊢
 exact hfin _
theorem UC{x:Int}(hK:K (iv 0) s):WF E 11 [.ptr none,iv x] K s:=by
 refine hE.go QV (by decide) rfl ?_
 simp only[YK,Pn,Po,UM,D9,Qa,Qb,Qc,Qd,Qe,Qf,Qg,Qh,Qi,Qj,Qk,Ql,Qm,Qn,true_and,and_true,Qo,Qp,Qq,Qr,Qs,Qt,Qu,Qv,Qw,Qx,Qy,Qz,Ra,Rb,Rc,Rd,Re,Rf,Rg,Rh,Ri,Rj,Rk,Rl,Rm,Ya,Yb,Yc,Rn,Ro,Xv,Yd,Ye,Rq,Rs,Rt,Ru,Rw,Rx,Ry,Rz,Wa,Wb,Wc,Wd,We,Wf,Wg,Wh,Wi,Wj,Wl,Wm,Wn,Wp,Wq,Wr,Ws,Wt,Wu,Wv,Ww,Wx,Wy,Wz,Xa,Xb,Xc,Xd,Xe,Xf,Xg,Xh,Xi,Xj,Xk,Xl,Xm,Xn,Xo,Xp,Xq,Xr,ZC,ZF,ZE,ZD,ZH,ZI,List.getElem?_cons_zero,List.getElem?_cons_succ,ZG,ZJ,ZK,ZL,ZB,Nat.reduceAdd,Nat.reduceLT,Nat.reduceLeDiff,decide_true,decide_false,Bool.true_and,Bool.and_true,ZM,Y9,Option.some.injEq,Xs,Xt,Xu,Xv]
 exact hK
theorem Th(hK:K (iv 0) s):WF E 10 [.ptr none] K s:=by
 refine hE.go QU (by decide) rfl ?_
 simp only[YJ,Pl,Pm,UK,D9,Qa,Qb,Qc,Qd,Qe,Qf,Qg,Qh,Qi,Qj,Qk,Ql,Qm,Qn,true_and,and_true,Qo,Qp,Qq,Qr,Qs,Qt,Qu,Qv,Qw,Qx,Qy,Qz,Ra,Rb,Rc,Rd,Re,Rf,Rg,Rh,Ri,Rj,Rk,Rl,Rm,Ya,Yb,Yc,Rn,Ro,Xv,Yd,Ye,Rq,Rs,Rt,Ru,Rw,Rx,Ry,Rz,Wa,Wb,Wc,Wd,We,Wf,Wg,Wh,Wi,Wj,Wl,Wm,Wn,Wp,Wq,Wr,Ws,Wt,Wu,Wv,Ww,Wx,Wy,Wz,Xa,Xb,Xc,Xd,Xe,Xf,Xg,Xh,Xi,Xj,Xk,Xl,Xm,Xn,Xo,Xp,Xq,Xr,ZC,ZF,ZE,ZD,ZH,ZI,List.getElem?_cons_zero,List.getElem?_cons_succ,ZG,ZJ,ZK,ZL,ZB,Nat.reduceAdd,Nat.reduceLT,Nat.reduceLeDiff,decide_true,decide_false,Bool.true_and,Bool.and_true,ZM,Y9,Option.some.injEq,Xs,Xt,Xu,Xv]
 exact hK
theorem Tz{x y:Int}(hK:K (iv 0) s):WF E 24 [.ptr none,iv x,iv y] K s:=by
 refine hE.go Vv (by decide) rfl ?_
 simp only[Yu,Uf,Ug,Uh,D9,Qa,Qb,Qc,Qd,Qe,Qf,Qg,Qh,Qi,Qj,Qk,Ql,Qm,Qn,true_and,and_true,Qo,Qp,Qq,Qr,Qs,Qt,Qu,Qv,Qw,Qx,Qy,Qz,Ra,Rb,Rc,Rd,Re,Rf,Rg,Rh,Ri,Rj,Rk,Rl,Rm,Ya,Yb,Yc,Rn,Ro,Xv,Yd,Ye,Rq,Rs,Rt,Ru,Rw,Rx,Ry,Rz,Wa,Wb,Wc,Wd,We,Wf,Wg,Wh,Wi,Wj,Wl,Wm,Wn,Wp,Wq,Wr,Ws,Wt,Wu,Wv,Ww,Wx,Wy,Wz,Xa,Xb,Xc,Xd,Xe,Xf,Xg,Xh,Xi,Xj,Xk,Xl,Xm,Xn,Xo,Xp,Xq,Xr,ZC,ZF,ZE,ZD,ZH,ZI,List.getElem?_cons_zero,List.getElem?_cons_succ,ZG,ZJ,ZK,ZL,ZB,Nat.reduceAdd,Nat.reduceLT,Nat.reduceLeDiff,decide_true,decide_false,Bool.true_and,Bool.and_true,ZM,Y9,Option.some.injEq,Xs,Xt,Xu,Xv]
 exact hK
theorem Tr{x:Int}{v:AV}(hK:∀s',B7 s.next s s'→K (iv 0) s'):WF E 14 [.ptr none,iv x,v] K s:=by
 refine hE.go QW (by decide) rfl ?_
 generalize hs:s.next=b at hK
 have hs0:s=ext s []:=(AZ s).symm
 have hfin:∀os,K (iv 0) (ext s os):=fun os=>hK _ (by rw[← hs];exact AK)
 rw[hs0]
 simp only[YL,Pp,Pq,UT,hs,F8,D9,Qa,Qb,Qc,Qd,Qe,Qf,Qg,Qh,Qi,Qj,Qk,Ql,Qm,Qn,true_and,and_true,Qo,Qp,Qq,Qr,Qs,Qt,Qu,Qv,Qw,Qx,Qy,Qz,Ra,Rb,Rc,Rd,Re,Rf,Rg,Rh,Ri,Rj,Rk,Rl,Rm,Ya,Yb,Yc,Rn,Ro,Xv,Yd,Ye,Rq,Rs,Rt,Ru,Rw,Rx,Ry,Rz,Wa,Wb,Wc,Wd,We,Wf,Wg,Wh,Wi,Wj,Wl,Wm,Wn,Wp,Wq,Wr,Ws,Wt,Wu,Wv,Ww,Wx,Wy,Wz,Xa,Xb,Xc,Xd,Xe,Xf,Xg,Xh,Xi,Xj,Xk,Xl,Xm,Xn,Xo,Xp,Xq,Xr,ZC,ZF,ZE,ZD,ZH,ZI,List.getElem?_cons_zero,List.getElem?_cons_succ,ZG,ZJ,ZK,ZL,ZB,Nat.reduceAdd,Nat.reduceLT,Nat.reduceLeDiff,decide_true,decide_false,Bool.true_and,Bool.and_true,ZM,Y9,Option.some.injEq,Xs,Xt,Xu,Xv]
 exact hfin _
theorem SC{x:Int}(hK:∀s',B7 s.next s s'→K (iv 0) s'):WF E 19 [.ptr none,iv x] K s:=by
 refine hE.go QX (by decide) rfl ?_
 simp only[YM,Pr,Qa,Qb,Qc,Qd,Qe,Qf,Qg,Qh,Qi,Qj,Qk,Ql,Qm,Qn,true_and,and_true,Qo,Qp,Qq,Qr,Qs,Qt,Qu,Qv,Qw,Qx,Qy,Qz,Ra,Rb,Rc,Rd,Re,Rf,Rg,Rh,Ri,Rj,Rk,Rl,Rm,Ya,Yb,Yc,Rn,Ro,Xv,Yd,Ye,Rq,Rs,Rt,Ru,Rw,Rx,Ry]
 simp only[Ps,Qa,Qb,Qc,Qd,Qe,Qf,Qg,Qh,Qi,Qj,Qk,Ql,Qm,Qn,true_and,and_true,Qo,Qp,Qq,Qr,Qs,Qt,Qu,Qv,Qw,Qx,Qy,Qz,Ra,Rb,Rc,Rd,Re,Rf,Rg,Rh,Ri,Rj,Rk,Rl,Rm,Ya,Yb,Yc,Rn,Ro,Xv,Yd,Ye,Rq,Rs,Rt,Ru,Rw,Rx,Ry]
 refine Jw hE fun s' ho=>?_
 simp only[Qa,Qb,Qc,Qd,Qe,Qf,Qg,Qh,Qi,Qj,Qk,Ql,Qm,Qn,true_and,and_true,Qo,Qp,Qq,Qr,Qs,Qt,Qu,Qv,Qw,Qx,Qy,Qz,Ra,Rb,Rc,Rd,Re,Rf,Rg,Rh,Ri,Rj,Rk,Rl,Rm,Ya,Yb,Yc,Rn,Ro,Xv,Yd,Ye,Rq,Rs,Rt,Ru,Rw,Rx,Ry,HY,RI,RH,Rz,Wa,Wb,Wc,Wd,We,Wf,Wg,Wh,Wi,Wj,Wl,Wm,Wn,Wp,Wq,Wr,Ws,Wt,Wu,Wv,Ww,Wx,Wy,Wz,Xa,Xb,Xc,Xd,Xe,Xf,Xg,Xh,Xi,Xj,Xk,Xl,Xm,Xn,Xo,Xp,Xq,Xr,ZC,ZF,ZE,ZD,ZH,ZI,List.getElem?_cons_zero,List.getElem?_cons_succ,ZG,ZJ,ZK,ZL,ZB,Nat.reduceAdd,Nat.reduceLT,Nat.reduceLeDiff,decide_true,decide_false,Bool.true_and,Bool.and_true,ZM,Y9,Option.some.injEq,Xs,Xt,Xu,Xv]
 exact hK s' ho
theorem Sx{x:Int}(hK:∀s',B7 s.next s s'→K (iv 0) s'):WF E 15 [.ptr none,iv x] K s:=by
 refine hE.go MN (by decide) rfl ?_
 simp only[YB,NL,Qa,Qb,Qc,Qd,Qe,Qf,Qg,Qh,Qi,Qj,Qk,Ql,Qm,Qn,true_and,and_true,Qo,Qp,Qq,Qr,Qs,Qt,Qu,Qv,Qw,Qx,Qy,Qz,Ra,Rb,Rc,Rd,Re,Rf,Rg,Rh,Ri,Rj,Rk,Rl,Rm,Ya,Yb,Yc,Rn,Ro,Xv,Yd,Ye,Rq,Rs,Rt,Ru,Rw,Rx,Ry]
 simp only[NM,Qa,Qb,Qc,Qd,Qe,Qf,Qg,Qh,Qi,Qj,Qk,Ql,Qm,Qn,true_and,and_true,Qo,Qp,Qq,Qr,Qs,Qt,Qu,Qv,Qw,Qx,Qy,Qz,Ra,Rb,Rc,Rd,Re,Rf,Rg,Rh,Ri,Rj,Rk,Rl,Rm,Ya,Yb,Yc,Rn,Ro,Xv,Yd,Ye,Rq,Rs,Rt,Ru,Rw,Rx,Ry]
 refine Jw hE fun s' ho=>?_
 simp only[Qa,Qb,Qc,Qd,Qe,Qf,Qg,Qh,Qi,Qj,Qk,Ql,Qm,Qn,true_and,and_true,Qo,Qp,Qq,Qr,Qs,Qt,Qu,Qv,Qw,Qx,Qy,Qz,Ra,Rb,Rc,Rd,Re,Rf,Rg,Rh,Ri,Rj,Rk,Rl,Rm,Ya,Yb,Yc,Rn,Ro,Xv,Yd,Ye,Rq,Rs,Rt,Ru,Rw,Rx,Ry,HY,MY,Rz,Wa,Wb,Wc,Wd,We,Wf,Wg,Wh,Wi,Wj,Wl,Wm,Wn,Wp,Wq,Wr,Ws,Wt,Wu,Wv,Ww,Wx,Wy,Wz,Xa,Xb,Xc,Xd,Xe,Xf,Xg,Xh,Xi,Xj,Xk,Xl,Xm,Xn,Xo,Xp,Xq,Xr,ZC,ZF,ZE,ZD,ZH,ZI,List.getElem?_cons_zero,List.getElem?_cons_succ,ZG,ZJ,ZK,ZL,ZB,Nat.reduceAdd,Nat.reduceLT,Nat.reduceLeDiff,decide_true,decide_false,Bool.true_and,Bool.and_true,ZM,Y9,Option.some.injEq,Xs,Xt,Xu,Xv]
 exact hK s' ho
theorem TA{x:Int}(hK:∀s',B7 s.next s s'→K (.str []) s'):WF E 26 [.ptr none,iv x] K s:=by
 refine hE.go J5 (by decide) rfl ?_
 simp only[XJ,Kz,K0,Qa,Qb,Qc,Qd,Qe,Qf,Qg,Qh,Qi,Qj,Qk,Ql,Qm,Qn,true_and,and_true,Qo,Qp,Qq,Qr,Qs,Qt,Qu,Qv,Qw,Qx,Qy,Qz,Ra,Rb,Rc,Rd,Re,Rf,Rg,Rh,Ri,Rj,Rk,Rl,Rm,Ya,Yb,Yc,Rn,Ro,Xv,Yd,Ye,Rq,Rs,Rt,Ru,Rw,Rx,Ry]
 refine Jw hE fun s1 ho=>?_
 have hend:∀s',B7 s1.next s1 s'→K (.str []) s':=fun s' h'=>hK s' (ho.trans (h'.mono ho.1))
 generalize hs1:s1.next=b at hend
 have hs10:s1=ext s1 []:=(AZ s1).symm
 have hxo:∀os,B7 b s1 (ext s1 os):=fun os=>by rw[← hs1];exact AK
 rw[hs10]
 simp only[Qa,Qb,Qc,Qd,Qe,Qf,Qg,Qh,Qi,Qj,Qk,Ql,Qm,Qn,true_and,and_true,Qo,Qp,Qq,Qr,Qs,Qt,Qu,Qv,Qw,Qx,Qy,Qz,Ra,Rb,Rc,Rd,Re,Rf,Rg,Rh,Ri,Rj,Rk,Rl,Rm,Ya,Yb,Yc,Rn,Ro,Xv,Yd,Ye,Rq,Rs,Rt,Ru,Rw,Rx,Ry,HY,hs1,G5,ER,F9,JJ,Px,D9,Rz,Wa,Wb,Wc,Wd,We,Wf,Wg,Wh,Wi,Wj,Wl,Wm,Wn,Wp,Wq,Wr,Ws,Wt,Wu,Wv,Ww,Wx,Wy,Wz,Xa,Xb,Xc,Xd,Xe,Xf,Xg,Xh,Xi,Xj,Xk,Xl,Xm,Xn,Xo,Xp,Xq,Xr,ZC,ZF,ZE,ZD,ZH,ZI,List.getElem?_cons_zero,List.getElem?_cons_succ,ZG,ZJ,ZK,ZL,ZB,Nat.reduceAdd,Nat.reduceLT,Nat.reduceLeDiff,decide_true,decide_false,Bool.true_and,Bool.and_true,ZM,Y9,Option.some.injEq,Xs,Xt,Xu,Xv]
 exact hend _ (hxo _)
theorem TH{x:Int}(hK:∀s',B7 s.next s s'→K (.slice none 0 (some 0)) s'):WF E 13 [.ptr none,iv x] K s:=by
 refine hE.go Vr (by decide) rfl ?_
 simp only[Yq,UR,US,Qa,Qb,Qc,Qd,Qe,Qf,Qg,Qh,Qi,Qj,Qk,Ql,Qm,Qn,true_and,and_true,Qo,Qp,Qq,Qr,Qs,Qt,Qu,Qv,Qw,Qx,Qy,Qz,Ra,Rb,Rc,Rd,Re,Rf,Rg,Rh,Ri,Rj,Rk,Rl,Rm,Ya,Yb,Yc,Rn,Ro,Xv,Yd,Ye,Rq,Rs,Rt,Ru,Rw,Rx,Ry,Rz,Wa,Wb,Wc,Wd,We,Wf,Wg,Wh,Wi,Wj,Wl,Wm,Wn,Wp,Wq,Wr,Ws,Wt,Wu,Wv,Ww,Wx,Wy,Wz,Xa,Xb,Xc,Xd,Xe,Xf,Xg,Xh,Xi,Xj,Xk,Xl,Xm,Xn,Xo,Xp,Xq,Xr,ZC,ZF,ZE,ZD,ZH,ZI,List.getElem?_cons_zero,List.getElem?_cons_succ,ZG,ZJ,ZK,ZL,ZB,Nat.reduceAdd,Nat.reduceLT,Nat.reduceLeDiff,decide_true,decide_false,Bool.true_and,Bool.and_true,ZM,Y9,Option.some.injEq,Xs,Xt,Xu,Xv]
 refine Jw hE fun s' ho=>?_
 simp only[Qa,Qb,Qc,Qd,Qe,Qf,Qg,Qh,Qi,Qj,Qk,Ql,Qm,Qn,true_and,and_true,Qo,Qp,Qq,Qr,Qs,Qt,Qu,Qv,Qw,Qx,Qy,Qz,Ra,Rb,Rc,Rd,Re,Rf,Rg,Rh,Ri,Rj,Rk,Rl,Rm,Ya,Yb,Yc,Rn,Ro,Xv,Yd,Ye,Rq,Rs,Rt,Ru,Rw,Rx,Ry,HY,WD,Rz,Wa,Wb,Wc,Wd,We,Wf,Wg,Wh,Wi,Wj,Wl,Wm,Wn,Wp,Wq,Wr,Ws,Wt,Wu,Wv,Ww,Wx,Wy,Wz,Xa,Xb,Xc,Xd,Xe,Xf,Xg,Xh,Xi,Xj,Xk,Xl,Xm,Xn,Xo,Xp,Xq,Xr,ZC,ZF,ZE,ZD,ZH,ZI,List.getElem?_cons_zero,List.getElem?_cons_succ,ZG,ZJ,ZK,ZL,ZB,Nat.reduceAdd,Nat.reduceLT,Nat.reduceLeDiff,decide_true,decide_false,Bool.true_and,Bool.and_true,ZM,Y9,Option.some.injEq,Xs,Xt,Xu,Xv]
 refine hE.go V3 (by decide) rfl ?_
 generalize hs:s'.next=b
 have hs0:s'=ext s' []:=(AZ s').symm
 rw[hs0]
 simp only[Y2,VC,VD,hs,Qa,Qb,Qc,Qd,Qe,Qf,Qg,Qh,Qi,Qj,Qk,Ql,Qm,Qn,true_and,and_true,Qo,Qp,Qq,Qr,Qs,Qt,Qu,Qv,Qw,Qx,Qy,Qz,Ra,Rb,Rc,Rd,Re,Rf,Rg,Rh,Ri,Rj,Rk,Rl,Rm,Ya,Yb,Yc,Rn,Ro,Xv,Yd,Ye,Rq,Rs,Rt,Ru,Rw,Rx,Ry,Rz,Wa,Wb,Wc,Wd,We,Wf,Wg,Wh,Wi,Wj,Wl,Wm,Wn,Wp,Wq,Wr,Ws,Wt,Wu,Wv,Ww,Wx,Wy,Wz,Xa,Xb,Xc,Xd,Xe,Xf,Xg,Xh,Xi,Xj,Xk,Xl,Xm,Xn,Xo,Xp,Xq,Xr,ZC,ZF,ZE,ZD,ZH,ZI,List.getElem?_cons_zero,List.getElem?_cons_succ,ZG,ZJ,ZK,ZL,ZB,Nat.reduceAdd,Nat.reduceLT,Nat.reduceLeDiff,decide_true,decide_false,Bool.true_and,Bool.and_true,ZM,Y9,Option.some.injEq,Xs,Xt,Xu,Xv]
 have hi:(ext s' [R 68 0 false [.map none]]).heap.get (nid b 0)=some (R 68 0 false [.map none]):=by rw[Wg hs (by simp)];rfl
 refine WF.native (hE.tab _ _ _ (.slice none 0 (some 0),_) (by
  rw[LW]
  have hr:rowAt (ext s' [R 68 0 false [.map none]]) (nid b 0)=some { elem:=68,sz:=0,n:=1,c:=Ny [.map none],spare:=false,mode:=.own,par:=none,bytes:=true }:=by
   rw[Hl,hi];rfl
  have hl1:B9 (ext s' [R 68 0 false [.map none]]) (nid b 0) 0=some (.map none):=by rw[Nt,hi];exact Wi _ _ _ _ _
  simp only[E4,hr,hl1,Option.bind_some]
  rfl)) ?_
 simp only[Qa,Qb,Qc,Qd,Qe,Qf,Qg,Qh,Qi,Qj,Qk,Ql,Qm,Qn,true_and,and_true,Qo,Qp,Qq,Qr,Qs,Qt,Qu,Qv,Qw,Qx,Qy,Qz,Ra,Rb,Rc,Rd,Re,Rf,Rg,Rh,Ri,Rj,Rk,Rl,Rm,Ya,Yb,Yc,Rn,Ro,Xv,Yd,Ye,Rq,Rs,Rt,Ru,Rw,Rx,Ry,Rz,Wa,Wb,Wc,Wd,We,Wf,Wg,Wh,Wi,Wj,Wl,Wm,Wn,Wp,Wq,Wr,Ws,Wt,Wu,Wv,Ww,Wx,Wy,Wz,Xa,Xb,Xc,Xd,Xe,Xf,Xg,Xh,Xi,Xj,Xk,Xl,Xm,Xn,Xo,Xp,Xq,Xr,ZC,ZF,ZE,ZD,ZH,ZI,List.getElem?_cons_zero,List.getElem?_cons_succ,ZG,ZJ,ZK,ZL,ZB,Nat.reduceAdd,Nat.reduceLT,Nat.reduceLeDiff,decide_true,decide_false,Bool.true_and,Bool.and_true,ZM,Y9,Option.some.injEq,Xs,Xt,Xu,Xv]
 exact hK _ (ho.trans ((AK (s:=s')).mono ho.1))
end
section
variable{E:Bt}(hE:A0 E){s:AE}{p:Nat}{S:List Tm}{O:List Nat}(h:AN s p S O)(hg:BZ s O){x:Int}(hx:x<0∨(S.length:Int)≤x){K:AV→AE→Prop}
include hE
theorem Tn(hg:BZ s O)(hK:∀s',B7 s.next s s'→K (.agg HW) s'):WF E 60 [] K s:=by
 refine hE.go V7 (by decide) rfl ?_
 generalize hs:s.next=b at hK
 have hs0:s=ext s []:=(AZ s).symm
 have hfin:∀os,K (.agg HW) (ext s os):=fun os=>hK _ (by rw[← hs];exact AK)
 have ht:=fun(K:AV→AE→Prop) os=>FI (K:=K) hE (s:=ext s os) (hg.old AK).1 (n:=0) (by omega)
 rw[hs0]
 simp only[Y5,VU,VV,G5,hs,CG,Qa,Qb,Qc,Qd,Qe,Qf,Qg,Qh,Qi,Qj,Qk,Ql,Qm,Qn,true_and,and_true,Qo,Qp,Qq,Qr,Qs,Qt,Qu,Qv,Qw,Qx,Qy,Qz,Ra,Rb,Rc,Rd,Re,Rf,Rg,Rh,Ri,Rj,Rk,Rl,Rm,Ya,Yb,Yc,Rn,Ro,Xv,Yd,Ye,Rq,Rs,Rt,Ru,Rw,Rx,Ry,Rz,Wa,Wb,Wc,Wd,We,Wf,Wg,Wh,Wi,Wj,Wl,Wm,Wn,Wp,Wq,Wr,Ws,Wt,Wu,Wv,Ww,Wx,Wy,Wz,Xa,Xb,Xc,Xd,Xe,Xf,Xg,Xh,Xi,Xj,Xk,Xl,Xm,Xn,Xo,Xp,Xq,Xr,ZC,ZF,ZE,ZD,ZH,ZI,List.getElem?_cons_zero,List.getElem?_cons_succ,ZG,ZJ,ZK,ZL,ZB,Nat.reduceAdd,Nat.reduceLT,Nat.reduceLeDiff,decide_true,decide_false,Bool.true_and,Bool.and_true,ZM,Y9,Option.some.injEq,Xs,Xt,Xu,Xv]
 refine ht _ _ ?_
 have e0:(Tm.con 0).ktext=[110,117,108,108]:=rfl
 rw[e0]
 simp only[DQ,Pi,HW,F9,ER,hs,Bq,Qa,Qb,Qc,Qd,Qe,Qf,Qg,Qh,Qi,Qj,Qk,Ql,Qm,Qn,true_and,and_true,Qo,Qp,Qq,Qr,Qs,Qt,Qu,Qv,Qw,Qx,Qy,Qz,Ra,Rb,Rc,Rd,Re,Rf,Rg,Rh,Ri,Rj,Rk,Rl,Rm,Ya,Yb,Yc,Rn,Ro,Xv,Yd,Ye,Rq,Rs,Rt,Ru,Rw,Rx,Ry,Rz,Wa,Wb,Wc,Wd,We,Wf,Wg,Wh,Wi,Wj,Wl,Wm,Wn,Wp,Wq,Wr,Ws,Wt,Wu,Wv,Ww,Wx,Wy,Wz,Xa,Xb,Xc,Xd,Xe,Xf,Xg,Xh,Xi,Xj,Xk,Xl,Xm,Xn,Xo,Xp,Xq,Xr,ZC,ZF,ZE,ZD,ZH,ZI,List.getElem?_cons_zero,List.getElem?_cons_succ,ZG,ZJ,ZK,ZL,ZB,Nat.reduceAdd,Nat.reduceLT,Nat.reduceLeDiff,decide_true,decide_false,Bool.true_and,Bool.and_true,ZM,Y9,Option.some.injEq,Xs,Xt,Xu,Xv]at hfin ⊢
 exact hfin _
include h hg hx
set_option maxRecDepth 20000 in
theorem Jv(hK:∀s',B7 s.next s s'→K (.agg HW) s'):WF E 39 [.ptr (some (p,0)),iv x] K s:=by
  obtain⟨tv,fi,vm,OT,e⟩:=h.ex
  obtain⟨a,c,htv,_⟩:=e.buf.slice
  subst htv
  refine hE.go MO (by decide) rfl ?_
  generalize hs:s.next=b at hK
  have hs0:s=ext s []:=(AZ s).symm
  have hplt:=e.plt
  have hobj:=e.obj
  have hn:=fun(K:AV→AE→Prop) os=>Tn (K:=K) hE (s:=ext s os) (hg.old AK)
  have hfin:∀os s1,B7 (ext s os).next (ext s os) s1→∀g:AX,K (.agg HW) (setObj s1 (nid b 0) g):=fun os s1 h1 g=>hK _ (by
    have h2:B7 b s s1:=by
      have:B7 b s (ext s os):=by rw[← hs];exact AK
      exact this.trans (h1.mono (by rw[Wm,hs,AH];omega))
    refine⟨by rw[Wp];exact h2.1,fun j hj=>?_⟩
    rw[Wr _ (by rw[AH];omega)];exact h2.2 j hj)
  rw[hs]at hplt
  rw[hs0]
  by_cases h0:x<0
  · have hd:decide (x<0)=true:=decide_eq_true h0
    simp only[XK,K3,K4,NS,QC,G5,hs,BR,Rq,hd,Qa,Qb,Qc,Qd,Qe,Qf,Qg,Qh,Qi,Qj,Qk,Ql,Qm,Qn,true_and,and_true,Qo,Qp,Qq,Qr,Qs,Qt,Qu,Qv,Qw,Qx,Qy,Qz,Ra,Rb,Rc,Rd,Re,Rf,Rg,Rh,Ri,Rj,Rk,Rl,Rm,Ya,Yb,Yc,Rn,Ro,Xv,Yd,Ye,Rq,Rs,Rt,Ru,Rw,Rx,Ry,Rz,Wa,Wb,Wc,Wd,We,Wf,Wg,Wh,Wi,Wj,Wl,Wm,Wn,Wp,Wq,Wr,Ws,Wt,Wu,Wv,Ww,Wx,Wy,Wz,Xa,Xb,Xc,Xd,Xe,Xf,Xg,Xh,Xi,Xj,Xk,Xl,Xm,Xn,Xo,Xp,Xq,Xr,ZC,ZF,ZE,ZD,ZH,ZI,List.getElem?_cons_zero,List.getElem?_cons_succ,ZG,ZJ,ZK,ZL,ZB,Nat.reduceAdd,Nat.reduceLT,Nat.reduceLeDiff,decide_true,decide_false,Bool.true_and,Bool.and_true,ZM,Y9,Option.some.injEq,Xs,Xt,Xu,Xv]
    refine hn _ _ fun s1 ho=>?_
    have hb:=hfin _ s1 ho
    have hg0:s1.heap.get (nid b 0)=some (R 70 0 false HY):=by
      rw[ho.2 _ (by rw[Wm,hs,AH,AH];simp),Wg hs (by simp)];rfl
    simp only[HY]at hg0
    simp only[HW,hg0,F9,ER,Bq,Qa,Qb,Qc,Qd,Qe,Qf,Qg,Qh,Qi,Qj,Qk,Ql,Qm,Qn,true_and,and_true,Qo,Qp,Qq,Qr,Qs,Qt,Qu,Qv,Qw,Qx,Qy,Qz,Ra,Rb,Rc,Rd,Re,Rf,Rg,Rh,Ri,Rj,Rk,Rl,Rm,Ya,Yb,Yc,Rn,Ro,Xv,Yd,Ye,Rq,Rs,Rt,Ru,Rw,Rx,Ry,Rz,Wa,Wb,Wc,Wd,We,Wf,Wg,Wh,Wi,Wj,Wl,Wm,Wn,Wp,Wq,Wr,Ws,Wt,Wu,Wv,Ww,Wx,Wy,Wz,Xa,Xb,Xc,Xd,Xe,Xf,Xg,Xh,Xi,Xj,Xk,Xl,Xm,Xn,Xo,Xp,Xq,Xr,ZC,ZF,ZE,ZD,ZH,ZI,List.getElem?_cons_zero,List.getElem?_cons_succ,ZG,ZJ,ZK,ZL,ZB,Nat.reduceAdd,Nat.reduceLT,Nat.reduceLeDiff,decide_true,decide_false,Bool.true_and,Bool.and_true,ZM,Y9,Option.some.injEq,Xs,Xt,Xu,Xv]at hb ⊢
    exact hb _
  · have hd : decide (x < 0) = false := decide_eq_false h0
    have RQ:decide ((S.length:Int)≤x)=true:=decide_eq_true (by omega)
    simp only[XK,K3,K4,NS,QC,G5,hs,BR,Rq,Ru,hd,RQ,hplt,hobj,Fj,L7,A8 Tryz.underlying59,Qa,Qb,Qc,Qd,Qe,Qf,Qg,Qh,Qi,Qj,Qk,Ql,Qm,Qn,true_and,and_true,Qo,Qp,Qq,Qr,Qs,Qt,Qu,Qv,Qw,Qx,Qy,Qz,Ra,Rb,Rc,Rd,Re,Rf,Rg,Rh,Ri,Rj,Rk,Rl,Rm,Ya,Yb,Yc,Rn,Ro,Xv,Yd,Ye,Rq,Rs,Rt,Ru,Rw,Rx,Ry,Rz,Wa,Wb,Wc,Wd,We,Wf,Wg,Wh,Wi,Wj,Wl,Wm,Wn,Wp,Wq,Wr,Ws,Wt,Wu,Wv,Ww,Wx,Wy,Wz,Xa,Xb,Xc,Xd,Xe,Xf,Xg,Xh,Xi,Xj,Xk,Xl,Xm,Xn,Xo,Xp,Xq,Xr,ZC,ZF,ZE,ZD,ZH,ZI,List.getElem?_cons_zero,List.getElem?_cons_succ,ZG,ZJ,ZK,ZL,ZB,Nat.reduceAdd,Nat.reduceLT,Nat.reduceLeDiff,decide_true,decide_false,Bool.true_and,Bool.and_true,ZM,Y9,Option.some.injEq,Xs,Xt,Xu,Xv]
    refine hn _ _ fun s1 ho=>?_
    have hb:=hfin _ s1 ho
    have hg0:s1.heap.get (nid b 0)=some (R 70 0 false HY):=by
      rw[ho.2 _ (by rw[Wm,hs,AH,AH];simp),Wg hs (by simp)];rfl
    simp only[HY]at hg0
    simp only[HW,hg0,F9,ER,Bq,Qa,Qb,Qc,Qd,Qe,Qf,Qg,Qh,Qi,Qj,Qk,Ql,Qm,Qn,true_and,and_true,Qo,Qp,Qq,Qr,Qs,Qt,Qu,Qv,Qw,Qx,Qy,Qz,Ra,Rb,Rc,Rd,Re,Rf,Rg,Rh,Ri,Rj,Rk,Rl,Rm,Ya,Yb,Yc,Rn,Ro,Xv,Yd,Ye,Rq,Rs,Rt,Ru,Rw,Rx,Ry,Rz,Wa,Wb,Wc,Wd,We,Wf,Wg,Wh,Wi,Wj,Wl,Wm,Wn,Wp,Wq,Wr,Ws,Wt,Wu,Wv,Ww,Wx,Wy,Wz,Xa,Xb,Xc,Xd,Xe,Xf,Xg,Xh,Xi,Xj,Xk,Xl,Xm,Xn,Xo,Xp,Xq,Xr,ZC,ZF,ZE,ZD,ZH,ZI,List.getElem?_cons_zero,List.getElem?_cons_succ,ZG,ZJ,ZK,ZL,ZB,Nat.reduceAdd,Nat.reduceLT,Nat.reduceLeDiff,decide_true,decide_false,Bool.true_and,Bool.and_true,ZM,Y9,Option.some.injEq,Xs,Xt,Xu,Xv]at hb ⊢
    exact hb _
theorem SB(hK:∀s',B7 s.next s s'→K (iv 2) s'):WF E 19 [.ptr (some (p,0)),iv x] K s:=by
 refine hE.go QX (by decide) rfl ?_
 simp only[YM,Pr,Qa,Qb,Qc,Qd,Qe,Qf,Qg,Qh,Qi,Qj,Qk,Ql,Qm,Qn,true_and,and_true,Qo,Qp,Qq,Qr,Qs,Qt,Qu,Qv,Qw,Qx,Qy,Qz,Ra,Rb,Rc,Rd,Re,Rf,Rg,Rh,Ri,Rj,Rk,Rl,Rm,Ya,Yb,Yc,Rn,Ro,Xv,Yd,Ye,Rq,Rs,Rt,Ru,Rw,Rx,Ry]
 simp only[Ps,Qa,Qb,Qc,Qd,Qe,Qf,Qg,Qh,Qi,Qj,Qk,Ql,Qm,Qn,true_and,and_true,Qo,Qp,Qq,Qr,Qs,Qt,Qu,Qv,Qw,Qx,Qy,Qz,Ra,Rb,Rc,Rd,Re,Rf,Rg,Rh,Ri,Rj,Rk,Rl,Rm,Ya,Yb,Yc,Rn,Ro,Xv,Yd,Ye,Rq,Rs,Rt,Ru,Rw,Rx,Ry]
 refine Jv hE h hg hx fun s' ho=>?_
 simp only[Qa,Qb,Qc,Qd,Qe,Qf,Qg,Qh,Qi,Qj,Qk,Ql,Qm,Qn,true_and,and_true,Qo,Qp,Qq,Qr,Qs,Qt,Qu,Qv,Qw,Qx,Qy,Qz,Ra,Rb,Rc,Rd,Re,Rf,Rg,Rh,Ri,Rj,Rk,Rl,Rm,Ya,Yb,Yc,Rn,Ro,Xv,Yd,Ye,Rq,Rs,Rt,Ru,Rw,Rx,Ry,HW,RI,RH,Rz,Wa,Wb,Wc,Wd,We,Wf,Wg,Wh,Wi,Wj,Wl,Wm,Wn,Wp,Wq,Wr,Ws,Wt,Wu,Wv,Ww,Wx,Wy,Wz,Xa,Xb,Xc,Xd,Xe,Xf,Xg,Xh,Xi,Xj,Xk,Xl,Xm,Xn,Xo,Xp,Xq,Xr,ZC,ZF,ZE,ZD,ZH,ZI,List.getElem?_cons_zero,List.getElem?_cons_succ,ZG,ZJ,ZK,ZL,ZB,Nat.reduceAdd,Nat.reduceLT,Nat.reduceLeDiff,decide_true,decide_false,Bool.true_and,Bool.and_true,ZM,Y9,Option.some.injEq,Xs,Xt,Xu,Xv]
 exact hK s' ho
theorem Sw(hK:∀s',B7 s.next s s'→K (iv 1) s'):WF E 15 [.ptr (some (p,0)),iv x] K s:=by
 refine hE.go MN (by decide) rfl ?_
 simp only[YB,NL,Qa,Qb,Qc,Qd,Qe,Qf,Qg,Qh,Qi,Qj,Qk,Ql,Qm,Qn,true_and,and_true,Qo,Qp,Qq,Qr,Qs,Qt,Qu,Qv,Qw,Qx,Qy,Qz,Ra,Rb,Rc,Rd,Re,Rf,Rg,Rh,Ri,Rj,Rk,Rl,Rm,Ya,Yb,Yc,Rn,Ro,Xv,Yd,Ye,Rq,Rs,Rt,Ru,Rw,Rx,Ry]
 simp only[NM,Qa,Qb,Qc,Qd,Qe,Qf,Qg,Qh,Qi,Qj,Qk,Ql,Qm,Qn,true_and,and_true,Qo,Qp,Qq,Qr,Qs,Qt,Qu,Qv,Qw,Qx,Qy,Qz,Ra,Rb,Rc,Rd,Re,Rf,Rg,Rh,Ri,Rj,Rk,Rl,Rm,Ya,Yb,Yc,Rn,Ro,Xv,Yd,Ye,Rq,Rs,Rt,Ru,Rw,Rx,Ry]
 refine Jv hE h hg hx fun s' ho=>?_
 simp only[Qa,Qb,Qc,Qd,Qe,Qf,Qg,Qh,Qi,Qj,Qk,Ql,Qm,Qn,true_and,and_true,Qo,Qp,Qq,Qr,Qs,Qt,Qu,Qv,Qw,Qx,Qy,Qz,Ra,Rb,Rc,Rd,Re,Rf,Rg,Rh,Ri,Rj,Rk,Rl,Rm,Ya,Yb,Yc,Rn,Ro,Xv,Yd,Ye,Rq,Rs,Rt,Ru,Rw,Rx,Ry,HW,MY,Rz,Wa,Wb,Wc,Wd,We,Wf,Wg,Wh,Wi,Wj,Wl,Wm,Wn,Wp,Wq,Wr,Ws,Wt,Wu,Wv,Ww,Wx,Wy,Wz,Xa,Xb,Xc,Xd,Xe,Xf,Xg,Xh,Xi,Xj,Xk,Xl,Xm,Xn,Xo,Xp,Xq,Xr,ZC,ZF,ZE,ZD,ZH,ZI,List.getElem?_cons_zero,List.getElem?_cons_succ,ZG,ZJ,ZK,ZL,ZB,Nat.reduceAdd,Nat.reduceLT,Nat.reduceLeDiff,decide_true,decide_false,Bool.true_and,Bool.and_true,ZM,Y9,Option.some.injEq,Xs,Xt,Xu,Xv]
 exact hK s' ho
theorem Pa(hK:∀s',B7 s.next s s'→K (.agg Tm.nullC) s'):WF E 23 [.ptr (some (p,0)),iv x] K s:=by
 refine hE.go Vu (by decide) rfl ?_
 generalize hs:s.next=b at hK
 have hs0:s=ext s []:=(AZ s).symm
 have hat:=fun os (K:AV→AE→Prop)=>Jv (K:=K) hE (h.old (AK (os:=os))) (hg.old AK) hx
 rw[hs0]
 simp only[Yt,Ud,Ue,Yk,hs,Qa,Qb,Qc,Qd,Qe,Qf,Qg,Qh,Qi,Qj,Qk,Ql,Qm,Qn,true_and,and_true,Qo,Qp,Qq,Qr,Qs,Qt,Qu,Qv,Qw,Qx,Qy,Qz,Ra,Rb,Rc,Rd,Re,Rf,Rg,Rh,Ri,Rj,Rk,Rl,Rm,Ya,Yb,Yc,Rn,Ro,Xv,Yd,Ye,Rq,Rs,Rt,Ru,Rw,Rx,Ry,Rz,Wa,Wb,Wc,Wd,We,Wf,Wg,Wh,Wi,Wj,Wl,Wm,Wn,Wp,Wq,Wr,Ws,Wt,Wu,Wv,Ww,Wx,Wy,Wz,Xa,Xb,Xc,Xd,Xe,Xf,Xg,Xh,Xi,Xj,Xk,Xl,Xm,Xn,Xo,Xp,Xq,Xr,ZC,ZF,ZE,ZD,ZH,ZI,List.getElem?_cons_zero,List.getElem?_cons_succ,ZG,ZJ,ZK,ZL,ZB,Nat.reduceAdd,Nat.reduceLT,Nat.reduceLeDiff,decide_true,decide_false,Bool.true_and,Bool.and_true,ZM,Y9,Option.some.injEq,Xs,Xt,Xu,Xv]
 refine hat _ _ fun s' ho=>?_
 have hg:s'.heap.get (nid b 0)=some (R 43 0 false [.int .i64 0,.bool false,.str [],.str [],.slice none 0 (some 0),.slice none 0 (some 0),.int .i64 0]):=by
  rw[ho.2 _ (by rw[Wm,hs,AH,AH];simp),Wg hs (by simp)];rfl
 have hb:∀g:AX,B7 b s (setObj s' (nid b 0) g):=fun g=>by
  refine⟨?_,fun j hj=>?_⟩
  ·have:=ho.1;rw[Wm,AH]at this;rw[Wp];omega
  ·rw[Wr _ (by rw[AH];omega),ho.2 j (by rw[Wm,AH];omega),Wh (by omega)]
 have:=fun g=>hK _ (hb g)
 simp only[Tm.nullC]at this
 simp only[Qa,Qb,Qc,Qd,Qe,Qf,Qg,Qh,Qi,Qj,Qk,Ql,Qm,Qn,true_and,and_true,Qo,Qp,Qq,Qr,Qs,Qt,Qu,Qv,Qw,Qx,Qy,Qz,Ra,Rb,Rc,Rd,Re,Rf,Rg,Rh,Ri,Rj,Rk,Rl,Rm,Ya,Yb,Yc,Rn,Ro,Xv,Yd,Ye,Rq,Rs,Rt,Ru,Rw,Rx,Ry,HW,WB,FR,FM,hg,Bq,Rz,Wa,Wb,Wc,Wd,We,Wf,Wg,Wh,Wi,Wj,Wl,Wm,Wn,Wp,Wq,Wr,Ws,Wt,Wu,Wv,Ww,Wx,Wy,Wz,Xa,Xb,Xc,Xd,Xe,Xf,Xg,Xh,Xi,Xj,Xk,Xl,Xm,Xn,Xo,Xp,Xq,Xr,ZC,ZF,ZE,ZD,ZH,ZI,List.getElem?_cons_zero,List.getElem?_cons_succ,ZG,ZJ,ZK,ZL,ZB,Nat.reduceAdd,Nat.reduceLT,Nat.reduceLeDiff,decide_true,decide_false,Bool.true_and,Bool.and_true,ZM,Y9,Option.some.injEq,Xs,Xt,Xu,Xv]
 exact this _
theorem S7(hK:∀s',B7 s.next s s'→K (.str [110,117,108,108]) s'):WF E 26 [.ptr (some (p,0)),iv x] K s:=by
 refine hE.go J5 (by decide) rfl ?_
 simp only[XJ,Kz,K0,Qa,Qb,Qc,Qd,Qe,Qf,Qg,Qh,Qi,Qj,Qk,Ql,Qm,Qn,true_and,and_true,Qo,Qp,Qq,Qr,Qs,Qt,Qu,Qv,Qw,Qx,Qy,Qz,Ra,Rb,Rc,Rd,Re,Rf,Rg,Rh,Ri,Rj,Rk,Rl,Rm,Ya,Yb,Yc,Rn,Ro,Xv,Yd,Ye,Rq,Rs,Rt,Ru,Rw,Rx,Ry]
 refine Jv hE h hg hx fun s1 ho=>?_
 have hend:∀s',B7 s1.next s1 s'→K (.str [110,117,108,108]) s':=fun s' h'=>hK s' (ho.trans (h'.mono ho.1))
 generalize hs1:s1.next=b at hend
 have hs10:s1=ext s1 []:=(AZ s1).symm
 have hxo:∀os,B7 b s1 (ext s1 os):=fun os=>by rw[← hs1];exact AK
 have hd:decide ((4096:Int)<1)=false:=by decide
 rw[hs10]
 simp only[Qa,Qb,Qc,Qd,Qe,Qf,Qg,Qh,Qi,Qj,Qk,Ql,Qm,Qn,true_and,and_true,Qo,Qp,Qq,Qr,Qs,Qt,Qu,Qv,Qw,Qx,Qy,Qz,Ra,Rb,Rc,Rd,Re,Rf,Rg,Rh,Ri,Rj,Rk,Rl,Rm,Ya,Yb,Yc,Rn,Ro,Xv,Yd,Ye,Rq,Rs,Rt,Ru,Rw,Rx,Ry,HW,hs1,G5,ER,F9,JJ,BR,II,Dx,Rs,hd,Rz,Wa,Wb,Wc,Wd,We,Wf,Wg,Wh,Wi,Wj,Wl,Wm,Wn,Wp,Wq,Wr,Ws,Wt,Wu,Wv,Ww,Wx,Wy,Wz,Xa,Xb,Xc,Xd,Xe,Xf,Xg,Xh,Xi,Xj,Xk,Xl,Xm,Xn,Xo,Xp,Xq,Xr,ZC,ZF,ZE,ZD,ZH,ZI,List.getElem?_cons_zero,List.getElem?_cons_succ,ZG,ZJ,ZK,ZL,ZB,Nat.reduceAdd,Nat.reduceLT,Nat.reduceLeDiff,decide_true,decide_false,Bool.true_and,Bool.and_true,ZM,Y9,Option.some.injEq,Xs,Xt,Xu,Xv]
 simp only[G8,G9,HA,H3,H2,MA,Qa,Qb,Qc,Qd,Qe,Qf,Qg,Qh,Qi,Qj,Qk,Ql,Qm,Qn,true_and,and_true,Qo,Qp,Qq,Qr,Qs,Qt,Qu,Qv,Qw,Qx,Qy,Qz,Ra,Rb,Rc,Rd,Re,Rf,Rg,Rh,Ri,Rj,Rk,Rl,Rm,Ya,Yb,Yc,Rn,Ro,Xv,Yd,Ye,Rq,Rs,Rt,Ru,Rw,Rx,Ry,hs1,Be,Bg,RF,Dx,Yn,Rw,Int.reduceEq,Rz,Wa,Wb,Wc,Wd,We,Wf,Wg,Wh,Wi,Wj,Wl,Wm,Wn,Wp,Wq,Wr,Ws,Wt,Wu,Wv,Ww,Wx,Wy,Wz,Xa,Xb,Xc,Xd,Xe,Xf,Xg,Xh,Xi,Xj,Xk,Xl,Xm,Xn,Xo,Xp,Xq,Xr,ZC,ZF,ZE,ZD,ZH,ZI,List.getElem?_cons_zero,List.getElem?_cons_succ,ZG,ZJ,ZK,ZL,ZB,Nat.reduceAdd,Nat.reduceLT,Nat.reduceLeDiff,decide_true,decide_false,Bool.true_and,Bool.and_true,ZM,Y9,Option.some.injEq,Xs,Xt,Xu,Xv]
 exact hend _ (hxo _)
end
set_option maxRecDepth 20000 in
theorem S9{E:Bt}(hE:A0 E){s:AE}{p:Nat}{S:List Tm}{O:List Nat}(h:AN s p S O)(hg:BZ s O){i:Int}(ht:Tm.bnd i∈S)(hi:-3≤i∧i≤10){K:AV→AE→Prop}(hK:∀s',B7 s.next s s'→K (.str (98::Cy i)) s'):
  WF E 26 [.ptr (some (p,0)),iv (ix S (.bnd i):Int)] K s:=by
 refine hE.go J5 (by decide) rfl ?_
 simp only[XJ,Kz,K0,Qa,Qb,Qc,Qd,Qe,Qf,Qg,Qh,Qi,Qj,Qk,Ql,Qm,Qn,true_and,and_true,Qo,Qp,Qq,Qr,Qs,Qt,Qu,Qv,Qw,Qx,Qy,Qz,Ra,Rb,Rc,Rd,Re,Rf,Rg,Rh,Ri,Rj,Rk,Rl,Rm,Ya,Yb,Yc,Rn,Ro,Xv,Yd,Ye,Rq,Rs,Rt,Ru,Rw,Rx,Ry]
 refine NG hE h ht fun r s1 ho1 he=>?_
 obtain⟨m,rfl,_,_⟩:=he
 have hent:A7 S (.bnd i) m=[iv 1,iv i,iv (part S (.bnd i) 0),iv (part S (.bnd i) 1),iv (part S (.bnd i) 2),.str [],.int .i64 0,.bool false,.str [],.str [],.slice none 0 (some 0),.slice none 0 (some 0),.int .i64 0,iv 0,iv 1,.map (some m)]:=rfl
 rw[hent]
 have hg1:=hg.old ho1
 have hend:∀s',B7 s1.next s1 s'→K (.str (98::Cy i)) s':=fun s' h'=>hK s' (ho1.trans (h'.mono ho1.1))
 generalize hs1:s1.next=b at hend
 have hs10:s1=ext s1 []:=(AZ s1).symm
 have hxo:∀os,B7 b s1 (ext s1 os):=fun os=>by rw[← hs1];exact AK
 have hil:=(DF hi).2
 have hd:decide ((4096:Int)<1)=false:=by decide
 rw[hs10]
 simp only[Qa,Qb,Qc,Qd,Qe,Qf,Qg,Qh,Qi,Qj,Qk,Ql,Qm,Qn,true_and,and_true,Qo,Qp,Qq,Qr,Qs,Qt,Qu,Qv,Qw,Qx,Qy,Qz,Ra,Rb,Rc,Rd,Re,Rf,Rg,Rh,Ri,Rj,Rk,Rl,Rm,Ya,Yb,Yc,Rn,Ro,Xv,Yd,Ye,Rq,Rs,Rt,Ru,Rw,Rx,Ry,hs1,G5,ER,F9,JJ,BR,II,Dx,Rs,hd,Rz,Wa,Wb,Wc,Wd,We,Wf,Wg,Wh,Wi,Wj,Wl,Wm,Wn,Wp,Wq,Wr,Ws,Wt,Wu,Wv,Ww,Wx,Wy,Wz,Xa,Xb,Xc,Xd,Xe,Xf,Xg,Xh,Xi,Xj,Xk,Xl,Xm,Xn,Xo,Xp,Xq,Xr,ZC,ZF,ZE,ZD,ZH,ZI,List.getElem?_cons_zero,List.getElem?_cons_succ,ZG,ZJ,ZK,ZL,ZB,Nat.reduceAdd,Nat.reduceLT,Nat.reduceLeDiff,decide_true,decide_false,Bool.true_and,Bool.and_true,ZM,Y9,Option.some.injEq,Xs,Xt,Xu,Xv]
 simp only[G8,G9,HA,H3,Py,Qa,Qb,Qc,Qd,Qe,Qf,Qg,Qh,Qi,Qj,Qk,Ql,Qm,Qn,true_and,and_true,Qo,Qp,Qq,Qr,Qs,Qt,Qu,Qv,Qw,Qx,Qy,Qz,Ra,Rb,Rc,Rd,Re,Rf,Rg,Rh,Ri,Rj,Rk,Rl,Rm,Ya,Yb,Yc,Rn,Ro,Xv,Yd,Ye,Rq,Rs,Rt,Ru,Rw,Rx,Ry,hs1,Be,Bg,Ct,Dx,Rw,Int.reduceEq,Rz,Wa,Wb,Wc,Wd,We,Wf,Wg,Wh,Wi,Wj,Wl,Wm,Wn,Wp,Wq,Wr,Ws,Wt,Wu,Wv,Ww,Wx,Wy,Wz,Xa,Xb,Xc,Xd,Xe,Xf,Xg,Xh,Xi,Xj,Xk,Xl,Xm,Xn,Xo,Xp,Xq,Xr,ZC,ZF,ZE,ZD,ZH,ZI,List.getElem?_cons_zero,List.getElem?_cons_succ,ZG,ZJ,ZK,ZL,ZB,Nat.reduceAdd,Nat.reduceLT,Nat.reduceLeDiff,decide_true,decide_false,Bool.true_and,Bool.and_true,ZM,Y9,Option.some.injEq,Xs,Xt,Xu,Xv]
 refine Gk hE (by rw[DB (Wh hg1.2.1)];exact hg1.1) hi ?_
 simp only[Qa,Qb,Qc,Qd,Qe,Qf,Qg,Qh,Qi,Qj,Qk,Ql,Qm,Qn,true_and,and_true,Qo,Qp,Qq,Qr,Qs,Qt,Qu,Qv,Qw,Qx,Qy,Qz,Ra,Rb,Rc,Rd,Re,Rf,Rg,Rh,Ri,Rj,Rk,Rl,Rm,Ya,Yb,Yc,Rn,Ro,Xv,Yd,Ye,Rq,Rs,Rt,Ru,Rw,Rx,Ry,F7 (x:=[98]) (y:=Cy i) (by simp;omega)]
 exact hend _ (hxo _)
def Ie:L0:=fun f xs s=>match Dq f xs s with
 | some p=>some p
 | none=>match EN f xs s with
  | some p=>some p
  | none=>bif Nat.beq f 29 then GE s xs else none
theorem Tj      : DN     Tryz.prog Ie   := by
  intro ρ s w f xs v s1 as' hc hi hf ha
  unfold Ie at hc
  cases h:Dq f xs s with
  | some p=>rw[h]at hc;injection hc with hc;subst hc;exact Nw ρ s w f xs v s1 as' h hi hf ha
  | none =>
    rw[h]at hc
    simp only at hc
    cases h2:EN f xs s with
    | some p=>rw[h2]at hc;injection hc with hc;subst hc;exact Mn ρ s w f xs v s1 as' h2 hi hf ha
    | none =>
      rw[h2]at hc
      simp only at hc
      cases h3:Nat.beq f 29 with
      | false=>rw[h3]at hc;cases hc
      | true =>
        rw[h3]at hc
        have:=ZR h3
        subst this
        exact⟨⟨_,_,Tryz.func29,rfl⟩,MT hi hc ha⟩
def Cs:Bt:=⟨Tryz.prog,Ie⟩
theorem AR:A0 Cs:=by
 refine⟨rfl,fun f xs s hf=>?_,fun f xs s p h=>?_⟩
 ·show Ie f xs s=none
  have h1:Dq f xs s=none:=Oi.nat f xs s hf
  have h2:Nat.beq f 44=false:=AG.beq_no fun e=>hf (by rw[e];simp)
  have h3:Nat.beq f 29=false:=AG.beq_no fun e=>hf (by rw[e];simp)
  unfold Ie EN
  rw[h1,h2,h3];rfl
 ·show Ie f xs s=some p
  unfold Ie
  rw[show Dq f xs s=some p from h]
theorem PA{s:AE}{i j:Nat}(hg:C9 s 1 At=true)(h1:IS s i 1 [.str [97]]=true)(h2:IS s j 7 Tm.nullC=true){K:AV→AE→Prop}(hK:K (.bool true) s):WF Cs 44 [Cn i j] K s:=by
 refine WF.native (v:=.bool true) (s':=s) ?_ hK
 show Ie 44 [Cn i j] s=_
 have e1:Dq 44 [Cn i j] s=none:=by kernel_rfl
 have e2:Hg.eqAs [Cn i j] [Cn i j]=true:=by
  have:∀i j,Hg.eqAs [Cn i j] [Cn i j]=(Nat.beq i i && Nat.beq j j):=fun i j=>by simp[Cn,Hg,Hg.eqAs,TO,Q8,Bl,Bh]
  rw[this,TO,TO];rfl
 have e3:EN 44 [Cn i j] s=some (.bool true,s):=by
  show AF (Hg.eqAs [Cn i j] [Cn i j] && (C9 s 1 At && (IS s i 1 [.str [97]] && IS s j 7 Tm.nullC))) (some (AV.bool true,s))=_
  rw[e2,hg,h1,h2];rfl
 unfold Ie
 rw[e1,e3]
theorem MU{s:AE}{m:Int}{r:B0}(h0:rowAt s 0=some r)(hgl:r.glob=some 0)(hm:B9 s 0 0=some (.int .i64 m)){x y:List Nat}(hy:2≤y.length)(hx:x.length≤1000000){K:AV→AE→Prop}(hK:K (iv (Gi x y)) s):WF Cs 29 [.str x,.str y] K s:=by
 refine WF.native (v:=iv (Gi x y)) (s':=s) ?_ hK
 show Ie 29 [.str x,.str y] s=_
 have e1:Dq 29 [.str x,.str y] s=none:=by kernel_rfl
 have e2:EN 29 [.str x,.str y] s=none:=by kernel_rfl
 have e3:GE s [.str x,.str y]=some (iv (Gi x y),s):=by
  unfold GE
  simp only[h0,Option.bind_some,hgl,hm]
  show AF true (AF (Nat.ble 2 y.length && Nat.ble x.length 1000000) _)=_
  rw[BS hy,BS hx];rfl
 unfold Ie
 rw[e1,e2]
 exact e3
def WG:List AV:=[.int .i64 5,.bool false,.str [],.str [],.slice none 0 (some 0),.slice none 0 (some 0),.int .i64 3]
def WV:List AV:=[.int .i64 2,.bool false,.str [48,49],.str [],.slice none 0 (some 0),.slice none 0 (some 0),.int .i64 0]
theorem RK:CT CV 44 [.agg WG]=some (.bool true):=by kernel_rfl
theorem RL:CT CV 44 [.agg WV]=some (.bool false):=by kernel_rfl
theorem N9{E:Bt}(hE:A0 E){s:AE}(hg:C9 s 1 At=true){cs:List AV}{r:AV}(hf:CT CV 44 [.agg cs]=some r){K:AV→AE→Prop}(hK:K r s):WF E 44 [.agg cs] K s:=by
 refine WF.native (hE.tab _ _ _ (r,s) ?_) hK
 have h2:CN 44 [.agg cs] s=(CT CV 44 [.agg cs]).bind fun r=>AF (C9 s 1 At) (some (r,s)):=rfl
 unfold Dq
 rw[h2,hf,Option.bind_some,hg]
 rfl
section
variable{E:Bt}(hE:A0 E){s:AE}{p:Nat}{S:List Tm}{O:List Nat}(h:AN s p S O)(hsm:S.length<100000)(hg:BZ s O){K:AV→AE→Prop}
include hE h hsm hg
theorem Fi{cs:List AV}{tag f:AV}{n:List Nat}{ks vs:AV}(hcs:cs=[tag,.bool false,.str n,.str [],ks,vs,f])(htag:tag.isCell=true)(hks:ks.isCell=true)(hvs:vs.isCell=true)(hff:f.isCell=true)
    {r:Bool} (hr:∀os K,K (.bool r) (ext s os)→WF E 44 [.agg cs] K (ext s os))
    (hc:(r=false)∨(tag=iv 5)∨(tag=iv 4∧∃i,ks=.slice (some (i,0)) 1 (some 1)))
    (hK:∀s' O',AN s' p (push S AP) O'→C2 O s s'→Ac O O' s→K (iv (ix (push S AP) AP:Int)) s'):WF E 22 [.ptr (some (p,0)),.agg cs] K s:=by
  have hp:=fun os (K:AV→AE→Prop)=>EA (K:=K) hE h hsm (AK (os:=os)) AP (fun _ h=>by cases h) (by show 0<13;omega) (.inl ⟨rfl,rfl⟩)
  have ht:=fun(K:AV→AE→Prop) os=>FI (K:=K) hE (s:=ext s os) (hg.old AK).1 (n:=0) (by omega)
  have hce:Hg (.agg Tm.nullC) (.agg Tm.nullC)=true:=QZ 0 (by omega)
  have hrr:=fun(K:AV→AE→Prop) os=>hr os K
  rw[hcs]at hrr
  refine hE.go QY (by decide) rfl ?_
  generalize hs:s.next=b
  have hs0:s=ext s []:=(AZ s).symm
  rw[hs0,hcs]
  simp only[YN,Pt,Pu,Pv,BR,hs,FR,FM,htag,hks,hvs,hff,Qa,Qb,Qc,Qd,Qe,Qf,Qg,Qh,Qi,Qj,Qk,Ql,Qm,Qn,true_and,and_true,Qo,Qp,Qq,Qr,Qs,Qt,Qu,Qv,Qw,Qx,Qy,Qz,Ra,Rb,Rc,Rd,Re,Rf,Rg,Rh,Ri,Rj,Rk,Rl,Rm,Ya,Yb,Yc,Rn,Ro,Xv,Yd,Ye,Rq,Rs,Rt,Ru,Rw,Rx,Ry,Rz,Wa,Wb,Wc,Wd,We,Wf,Wg,Wh,Wi,Wj,Wl,Wm,Wn,Wp,Wq,Wr,Ws,Wt,Wu,Wv,Ww,Wx,Wy,Wz,Xa,Xb,Xc,Xd,Xe,Xf,Xg,Xh,Xi,Xj,Xk,Xl,Xm,Xn,Xo,Xp,Xq,Xr,ZC,ZF,ZE,ZD,ZH,ZI,List.getElem?_cons_zero,List.getElem?_cons_succ,ZG,ZJ,ZK,ZL,ZB,Nat.reduceAdd,Nat.reduceLT,Nat.reduceLeDiff,decide_true,decide_false,Bool.true_and,Bool.and_true,ZM,Y9,Option.some.injEq,Xs,Xt,Xu,Xv]
  refine hrr _ _ ?_
  have e0:(Tm.con 0).ktext=[110,117,108,108]:=rfl
  unfold Tm.nullC at hce
  rcases hc with rfl | rfl | ⟨rfl,i,rfl⟩
  · simp only[Ry,Bool.not_false,hs,JI,H1,CG,Tm.nullC,FR,FM,htag,hks,hvs,hff,Qa,Qb,Qc,Qd,Qe,Qf,Qg,Qh,Qi,Qj,Qk,Ql,Qm,Qn,true_and,and_true,Qo,Qp,Qq,Qr,Qs,Qt,Qu,Qv,Qw,Qx,Qy,Qz,Ra,Rb,Rc,Rd,Re,Rf,Rg,Rh,Ri,Rj,Rk,Rl,Rm,Ya,Yb,Yc,Rn,Ro,Xv,Yd,Ye,Rq,Rs,Rt,Ru,Rw,Rx,Ry,Rz,Wa,Wb,Wc,Wd,We,Wf,Wg,Wh,Wi,Wj,Wl,Wm,Wn,Wp,Wq,Wr,Ws,Wt,Wu,Wv,Ww,Wx,Wy,Wz,Xa,Xb,Xc,Xd,Xe,Xf,Xg,Xh,Xi,Xj,Xk,Xl,Xm,Xn,Xo,Xp,Xq,Xr,ZC,ZF,ZE,ZD,ZH,ZI,List.getElem?_cons_zero,List.getElem?_cons_succ,ZG,ZJ,ZK,ZL,ZB,Nat.reduceAdd,Nat.reduceLT,Nat.reduceLeDiff,decide_true,decide_false,Bool.true_and,Bool.and_true,ZM,Y9,Option.some.injEq,Xs,Xt,Xu,Xv]
    refine ht _ _ ?_
    refine⟨⟨Ck ?_ hce,trivial⟩,?_⟩
    · simp only[Qa,Qb,Qc,Qd,Qe,Qf,Qg,Qh,Qi,Qj,Qk,Ql,Qm,Qn,true_and,and_true,Qo,Qp,Qq,Qr,Qs,Qt,Qu,Qv,Qw,Qx,Qy,Qz,Ra,Rb,Rc,Rd,Re,Rf,Rg,Rh,Ri,Rj,Rk,Rl,Rm,Ya,Yb,Yc,Rn,Ro,Xv,Yd,Ye,Rq,Rs,Rt,Ru,Rw,Rx,Ry,FR,FM,hs,Rz,Wa,Wb,Wc,Wd,We,Wf,Wg,Wh,Wi,Wj,Wl,Wm,Wn,Wp,Wq,Wr,Ws,Wt,Wu,Wv,Ww,Wx,Wy,Wz,Xa,Xb,Xc,Xd,Xe,Xf,Xg,Xh,Xi,Xj,Xk,Xl,Xm,Xn,Xo,Xp,Xq,Xr,ZC,ZF,ZE,ZD,ZH,ZI,List.getElem?_cons_zero,List.getElem?_cons_succ,ZG,ZJ,ZK,ZL,ZB,Nat.reduceAdd,Nat.reduceLT,Nat.reduceLeDiff,decide_true,decide_false,Bool.true_and,Bool.and_true,ZM,Y9,Option.some.injEq,Xs,Xt,Xu,Xv]
    simp only[e0,DQ,Qa,Qb,Qc,Qd,Qe,Qf,Qg,Qh,Qi,Qj,Qk,Ql,Qm,Qn,true_and,and_true,Qo,Qp,Qq,Qr,Qs,Qt,Qu,Qv,Qw,Qx,Qy,Qz,Ra,Rb,Rc,Rd,Re,Rf,Rg,Rh,Ri,Rj,Rk,Rl,Rm,Ya,Yb,Yc,Rn,Ro,Xv,Yd,Ye,Rq,Rs,Rt,Ru,Rw,Rx,Ry,Rz,Wa,Wb,Wc,Wd,We,Wf,Wg,Wh,Wi,Wj,Wl,Wm,Wn,Wp,Wq,Wr,Ws,Wt,Wu,Wv,Ww,Wx,Wy,Wz,Xa,Xb,Xc,Xd,Xe,Xf,Xg,Xh,Xi,Xj,Xk,Xl,Xm,Xn,Xo,Xp,Xq,Xr,ZC,ZF,ZE,ZD,ZH,ZI,List.getElem?_cons_zero,List.getElem?_cons_succ,ZG,ZJ,ZK,ZL,ZB,Nat.reduceAdd,Nat.reduceLT,Nat.reduceLeDiff,decide_true,decide_false,Bool.true_and,Bool.and_true,ZM,Y9,Option.some.injEq,Xs,Xt,Xu,Xv]
    refine hp _ _ fun s' O' h1 h2 h3=>?_
    simp only[Qa,Qb,Qc,Qd,Qe,Qf,Qg,Qh,Qi,Qj,Qk,Ql,Qm,Qn,true_and,and_true,Qo,Qp,Qq,Qr,Qs,Qt,Qu,Qv,Qw,Qx,Qy,Qz,Ra,Rb,Rc,Rd,Re,Rf,Rg,Rh,Ri,Rj,Rk,Rl,Rm,Ya,Yb,Yc,Rn,Ro,Xv,Yd,Ye,Rq,Rs,Rt,Ru,Rw,Rx,Ry]
    exact hK s' O' h1 h2 h3
  · cases r
    · simp only[Ry,Bool.not_false,hs,JI,H1,CG,Tm.nullC,FR,FM,htag,hks,hvs,hff,Qa,Qb,Qc,Qd,Qe,Qf,Qg,Qh,Qi,Qj,Qk,Ql,Qm,Qn,true_and,and_true,Qo,Qp,Qq,Qr,Qs,Qt,Qu,Qv,Qw,Qx,Qy,Qz,Ra,Rb,Rc,Rd,Re,Rf,Rg,Rh,Ri,Rj,Rk,Rl,Rm,Ya,Yb,Yc,Rn,Ro,Xv,Yd,Ye,Rq,Rs,Rt,Ru,Rw,Rx,Ry,Rz,Wa,Wb,Wc,Wd,We,Wf,Wg,Wh,Wi,Wj,Wl,Wm,Wn,Wp,Wq,Wr,Ws,Wt,Wu,Wv,Ww,Wx,Wy,Wz,Xa,Xb,Xc,Xd,Xe,Xf,Xg,Xh,Xi,Xj,Xk,Xl,Xm,Xn,Xo,Xp,Xq,Xr,ZC,ZF,ZE,ZD,ZH,ZI,List.getElem?_cons_zero,List.getElem?_cons_succ,ZG,ZJ,ZK,ZL,ZB,Nat.reduceAdd,Nat.reduceLT,Nat.reduceLeDiff,decide_true,decide_false,Bool.true_and,Bool.and_true,ZM,Y9,Option.some.injEq,Xs,Xt,Xu,Xv]
      refine ht _ _ ?_
      refine⟨⟨Ck ?_ hce,trivial⟩,?_⟩
      · simp only[Qa,Qb,Qc,Qd,Qe,Qf,Qg,Qh,Qi,Qj,Qk,Ql,Qm,Qn,true_and,and_true,Qo,Qp,Qq,Qr,Qs,Qt,Qu,Qv,Qw,Qx,Qy,Qz,Ra,Rb,Rc,Rd,Re,Rf,Rg,Rh,Ri,Rj,Rk,Rl,Rm,Ya,Yb,Yc,Rn,Ro,Xv,Yd,Ye,Rq,Rs,Rt,Ru,Rw,Rx,Ry,FR,FM,hs,Rz,Wa,Wb,Wc,Wd,We,Wf,Wg,Wh,Wi,Wj,Wl,Wm,Wn,Wp,Wq,Wr,Ws,Wt,Wu,Wv,Ww,Wx,Wy,Wz,Xa,Xb,Xc,Xd,Xe,Xf,Xg,Xh,Xi,Xj,Xk,Xl,Xm,Xn,Xo,Xp,Xq,Xr,ZC,ZF,ZE,ZD,ZH,ZI,List.getElem?_cons_zero,List.getElem?_cons_succ,ZG,ZJ,ZK,ZL,ZB,Nat.reduceAdd,Nat.reduceLT,Nat.reduceLeDiff,decide_true,decide_false,Bool.true_and,Bool.and_true,ZM,Y9,Option.some.injEq,Xs,Xt,Xu,Xv]
      simp only[e0,DQ,Qa,Qb,Qc,Qd,Qe,Qf,Qg,Qh,Qi,Qj,Qk,Ql,Qm,Qn,true_and,and_true,Qo,Qp,Qq,Qr,Qs,Qt,Qu,Qv,Qw,Qx,Qy,Qz,Ra,Rb,Rc,Rd,Re,Rf,Rg,Rh,Ri,Rj,Rk,Rl,Rm,Ya,Yb,Yc,Rn,Ro,Xv,Yd,Ye,Rq,Rs,Rt,Ru,Rw,Rx,Ry,Rz,Wa,Wb,Wc,Wd,We,Wf,Wg,Wh,Wi,Wj,Wl,Wm,Wn,Wp,Wq,Wr,Ws,Wt,Wu,Wv,Ww,Wx,Wy,Wz,Xa,Xb,Xc,Xd,Xe,Xf,Xg,Xh,Xi,Xj,Xk,Xl,Xm,Xn,Xo,Xp,Xq,Xr,ZC,ZF,ZE,ZD,ZH,ZI,List.getElem?_cons_zero,List.getElem?_cons_succ,ZG,ZJ,ZK,ZL,ZB,Nat.reduceAdd,Nat.reduceLT,Nat.reduceLeDiff,decide_true,decide_false,Bool.true_and,Bool.and_true,ZM,Y9,Option.some.injEq,Xs,Xt,Xu,Xv]
      refine hp _ _ fun s' O' h1 h2 h3=>?_
      simp only[Qa,Qb,Qc,Qd,Qe,Qf,Qg,Qh,Qi,Qj,Qk,Ql,Qm,Qn,true_and,and_true,Qo,Qp,Qq,Qr,Qs,Qt,Qu,Qv,Qw,Qx,Qy,Qz,Ra,Rb,Rc,Rd,Re,Rf,Rg,Rh,Ri,Rj,Rk,Rl,Rm,Ya,Yb,Yc,Rn,Ro,Xv,Yd,Ye,Rq,Rs,Rt,Ru,Rw,Rx,Ry]
      exact hK s' O' h1 h2 h3
    · simp only[Ry,Bool.not_true,Rw,Int.reduceEq,decide_true,Dx,MX,hs,JI,H1,CG,Tm.nullC,FR,FM,htag,hks,hvs,hff,Qa,Qb,Qc,Qd,Qe,Qf,Qg,Qh,Qi,Qj,Qk,Ql,Qm,Qn,true_and,and_true,Qo,Qp,Qq,Qr,Qs,Qt,Qu,Qv,Qw,Qx,Qy,Qz,Ra,Rb,Rc,Rd,Re,Rf,Rg,Rh,Ri,Rj,Rk,Rl,Rm,Ya,Yb,Yc,Rn,Ro,Xv,Yd,Ye,Rq,Rs,Rt,Ru,Rw,Rx,Ry,Rz,Wa,Wb,Wc,Wd,We,Wf,Wg,Wh,Wi,Wj,Wl,Wm,Wn,Wp,Wq,Wr,Ws,Wt,Wu,Wv,Ww,Wx,Wy,Wz,Xa,Xb,Xc,Xd,Xe,Xf,Xg,Xh,Xi,Xj,Xk,Xl,Xm,Xn,Xo,Xp,Xq,Xr,ZC,ZF,ZE,ZD,ZH,ZI,List.getElem?_cons_zero,List.getElem?_cons_succ,ZG,ZJ,ZK,ZL,ZB,Nat.reduceAdd,Nat.reduceLT,Nat.reduceLeDiff,decide_true,decide_false,Bool.true_and,Bool.and_true,ZM,Y9,Option.some.injEq,Xs,Xt,Xu,Xv]
      refine ht _ _ ?_
      refine⟨⟨Ck ?_ hce,trivial⟩,?_⟩
      · simp only[Qa,Qb,Qc,Qd,Qe,Qf,Qg,Qh,Qi,Qj,Qk,Ql,Qm,Qn,true_and,and_true,Qo,Qp,Qq,Qr,Qs,Qt,Qu,Qv,Qw,Qx,Qy,Qz,Ra,Rb,Rc,Rd,Re,Rf,Rg,Rh,Ri,Rj,Rk,Rl,Rm,Ya,Yb,Yc,Rn,Ro,Xv,Yd,Ye,Rq,Rs,Rt,Ru,Rw,Rx,Ry,FR,FM,hs,Rz,Wa,Wb,Wc,Wd,We,Wf,Wg,Wh,Wi,Wj,Wl,Wm,Wn,Wp,Wq,Wr,Ws,Wt,Wu,Wv,Ww,Wx,Wy,Wz,Xa,Xb,Xc,Xd,Xe,Xf,Xg,Xh,Xi,Xj,Xk,Xl,Xm,Xn,Xo,Xp,Xq,Xr,ZC,ZF,ZE,ZD,ZH,ZI,List.getElem?_cons_zero,List.getElem?_cons_succ,ZG,ZJ,ZK,ZL,ZB,Nat.reduceAdd,Nat.reduceLT,Nat.reduceLeDiff,decide_true,decide_false,Bool.true_and,Bool.and_true,ZM,Y9,Option.some.injEq,Xs,Xt,Xu,Xv]
      simp only[e0,DQ,Qa,Qb,Qc,Qd,Qe,Qf,Qg,Qh,Qi,Qj,Qk,Ql,Qm,Qn,true_and,and_true,Qo,Qp,Qq,Qr,Qs,Qt,Qu,Qv,Qw,Qx,Qy,Qz,Ra,Rb,Rc,Rd,Re,Rf,Rg,Rh,Ri,Rj,Rk,Rl,Rm,Ya,Yb,Yc,Rn,Ro,Xv,Yd,Ye,Rq,Rs,Rt,Ru,Rw,Rx,Ry,Rz,Wa,Wb,Wc,Wd,We,Wf,Wg,Wh,Wi,Wj,Wl,Wm,Wn,Wp,Wq,Wr,Ws,Wt,Wu,Wv,Ww,Wx,Wy,Wz,Xa,Xb,Xc,Xd,Xe,Xf,Xg,Xh,Xi,Xj,Xk,Xl,Xm,Xn,Xo,Xp,Xq,Xr,ZC,ZF,ZE,ZD,ZH,ZI,List.getElem?_cons_zero,List.getElem?_cons_succ,ZG,ZJ,ZK,ZL,ZB,Nat.reduceAdd,Nat.reduceLT,Nat.reduceLeDiff,decide_true,decide_false,Bool.true_and,Bool.and_true,ZM,Y9,Option.some.injEq,Xs,Xt,Xu,Xv]
      refine hp _ _ fun s' O' h1 h2 h3=>?_
      simp only[Qa,Qb,Qc,Qd,Qe,Qf,Qg,Qh,Qi,Qj,Qk,Ql,Qm,Qn,true_and,and_true,Qo,Qp,Qq,Qr,Qs,Qt,Qu,Qv,Qw,Qx,Qy,Qz,Ra,Rb,Rc,Rd,Re,Rf,Rg,Rh,Ri,Rj,Rk,Rl,Rm,Ya,Yb,Yc,Rn,Ro,Xv,Yd,Ye,Rq,Rs,Rt,Ru,Rw,Rx,Ry]
      exact hK s' O' h1 h2 h3
  · have hgt:decide ((0:Int)<((1:Nat):Int))=true:=rfl
    cases r
    · simp only[Ry,Bool.not_false,hs,JI,H1,CG,Tm.nullC,FR,FM,htag,hks,hvs,hff,Qa,Qb,Qc,Qd,Qe,Qf,Qg,Qh,Qi,Qj,Qk,Ql,Qm,Qn,true_and,and_true,Qo,Qp,Qq,Qr,Qs,Qt,Qu,Qv,Qw,Qx,Qy,Qz,Ra,Rb,Rc,Rd,Re,Rf,Rg,Rh,Ri,Rj,Rk,Rl,Rm,Ya,Yb,Yc,Rn,Ro,Xv,Yd,Ye,Rq,Rs,Rt,Ru,Rw,Rx,Ry,Rz,Wa,Wb,Wc,Wd,We,Wf,Wg,Wh,Wi,Wj,Wl,Wm,Wn,Wp,Wq,Wr,Ws,Wt,Wu,Wv,Ww,Wx,Wy,Wz,Xa,Xb,Xc,Xd,Xe,Xf,Xg,Xh,Xi,Xj,Xk,Xl,Xm,Xn,Xo,Xp,Xq,Xr,ZC,ZF,ZE,ZD,ZH,ZI,List.getElem?_cons_zero,List.getElem?_cons_succ,ZG,ZJ,ZK,ZL,ZB,Nat.reduceAdd,Nat.reduceLT,Nat.reduceLeDiff,decide_true,decide_false,Bool.true_and,Bool.and_true,ZM,Y9,Option.some.injEq,Xs,Xt,Xu,Xv]
      refine ht _ _ ?_
      refine⟨⟨Ck ?_ hce,trivial⟩,?_⟩
      · simp only[Qa,Qb,Qc,Qd,Qe,Qf,Qg,Qh,Qi,Qj,Qk,Ql,Qm,Qn,true_and,and_true,Qo,Qp,Qq,Qr,Qs,Qt,Qu,Qv,Qw,Qx,Qy,Qz,Ra,Rb,Rc,Rd,Re,Rf,Rg,Rh,Ri,Rj,Rk,Rl,Rm,Ya,Yb,Yc,Rn,Ro,Xv,Yd,Ye,Rq,Rs,Rt,Ru,Rw,Rx,Ry,FR,FM,hs,Rz,Wa,Wb,Wc,Wd,We,Wf,Wg,Wh,Wi,Wj,Wl,Wm,Wn,Wp,Wq,Wr,Ws,Wt,Wu,Wv,Ww,Wx,Wy,Wz,Xa,Xb,Xc,Xd,Xe,Xf,Xg,Xh,Xi,Xj,Xk,Xl,Xm,Xn,Xo,Xp,Xq,Xr,ZC,ZF,ZE,ZD,ZH,ZI,List.getElem?_cons_zero,List.getElem?_cons_succ,ZG,ZJ,ZK,ZL,ZB,Nat.reduceAdd,Nat.reduceLT,Nat.reduceLeDiff,decide_true,decide_false,Bool.true_and,Bool.and_true,ZM,Y9,Option.some.injEq,Xs,Xt,Xu,Xv]
      simp only[e0,DQ,Qa,Qb,Qc,Qd,Qe,Qf,Qg,Qh,Qi,Qj,Qk,Ql,Qm,Qn,true_and,and_true,Qo,Qp,Qq,Qr,Qs,Qt,Qu,Qv,Qw,Qx,Qy,Qz,Ra,Rb,Rc,Rd,Re,Rf,Rg,Rh,Ri,Rj,Rk,Rl,Rm,Ya,Yb,Yc,Rn,Ro,Xv,Yd,Ye,Rq,Rs,Rt,Ru,Rw,Rx,Ry,Rz,Wa,Wb,Wc,Wd,We,Wf,Wg,Wh,Wi,Wj,Wl,Wm,Wn,Wp,Wq,Wr,Ws,Wt,Wu,Wv,Ww,Wx,Wy,Wz,Xa,Xb,Xc,Xd,Xe,Xf,Xg,Xh,Xi,Xj,Xk,Xl,Xm,Xn,Xo,Xp,Xq,Xr,ZC,ZF,ZE,ZD,ZH,ZI,List.getElem?_cons_zero,List.getElem?_cons_succ,ZG,ZJ,ZK,ZL,ZB,Nat.reduceAdd,Nat.reduceLT,Nat.reduceLeDiff,decide_true,decide_false,Bool.true_and,Bool.and_true,ZM,Y9,Option.some.injEq,Xs,Xt,Xu,Xv]
      refine hp _ _ fun s' O' h1 h2 h3=>?_
      simp only[Qa,Qb,Qc,Qd,Qe,Qf,Qg,Qh,Qi,Qj,Qk,Ql,Qm,Qn,true_and,and_true,Qo,Qp,Qq,Qr,Qs,Qt,Qu,Qv,Qw,Qx,Qy,Qz,Ra,Rb,Rc,Rd,Re,Rf,Rg,Rh,Ri,Rj,Rk,Rl,Rm,Ya,Yb,Yc,Rn,Ro,Xv,Yd,Ye,Rq,Rs,Rt,Ru,Rw,Rx,Ry]
      exact hK s' O' h1 h2 h3
    · simp only[Ry,Bool.not_true,Rw,Rs,Int.reduceEq,hgt,Dx,XC,MX,RD,A8 Tryz.underlying39,hs,JI,H1,CG,Tm.nullC,FR,FM,htag,hks,hvs,hff,Qa,Qb,Qc,Qd,Qe,Qf,Qg,Qh,Qi,Qj,Qk,Ql,Qm,Qn,true_and,and_true,Qo,Qp,Qq,Qr,Qs,Qt,Qu,Qv,Qw,Qx,Qy,Qz,Ra,Rb,Rc,Rd,Re,Rf,Rg,Rh,Ri,Rj,Rk,Rl,Rm,Ya,Yb,Yc,Rn,Ro,Xv,Yd,Ye,Rq,Rs,Rt,Ru,Rw,Rx,Ry,Rz,Wa,Wb,Wc,Wd,We,Wf,Wg,Wh,Wi,Wj,Wl,Wm,Wn,Wp,Wq,Wr,Ws,Wt,Wu,Wv,Ww,Wx,Wy,Wz,Xa,Xb,Xc,Xd,Xe,Xf,Xg,Xh,Xi,Xj,Xk,Xl,Xm,Xn,Xo,Xp,Xq,Xr,ZC,ZF,ZE,ZD,ZH,ZI,List.getElem?_cons_zero,List.getElem?_cons_succ,ZG,ZJ,ZK,ZL,ZB,Nat.reduceAdd,Nat.reduceLT,Nat.reduceLeDiff,decide_true,decide_false,Bool.true_and,Bool.and_true,ZM,Y9,Option.some.injEq,Xs,Xt,Xu,Xv]
      refine ht _ _ ?_
      refine⟨⟨Ck ?_ hce,trivial⟩,?_⟩
      · simp only[Qa,Qb,Qc,Qd,Qe,Qf,Qg,Qh,Qi,Qj,Qk,Ql,Qm,Qn,true_and,and_true,Qo,Qp,Qq,Qr,Qs,Qt,Qu,Qv,Qw,Qx,Qy,Qz,Ra,Rb,Rc,Rd,Re,Rf,Rg,Rh,Ri,Rj,Rk,Rl,Rm,Ya,Yb,Yc,Rn,Ro,Xv,Yd,Ye,Rq,Rs,Rt,Ru,Rw,Rx,Ry,FR,FM,hs,Rz,Wa,Wb,Wc,Wd,We,Wf,Wg,Wh,Wi,Wj,Wl,Wm,Wn,Wp,Wq,Wr,Ws,Wt,Wu,Wv,Ww,Wx,Wy,Wz,Xa,Xb,Xc,Xd,Xe,Xf,Xg,Xh,Xi,Xj,Xk,Xl,Xm,Xn,Xo,Xp,Xq,Xr,ZC,ZF,ZE,ZD,ZH,ZI,List.getElem?_cons_zero,List.getElem?_cons_succ,ZG,ZJ,ZK,ZL,ZB,Nat.reduceAdd,Nat.reduceLT,Nat.reduceLeDiff,decide_true,decide_false,Bool.true_and,Bool.and_true,ZM,Y9,Option.some.injEq,Xs,Xt,Xu,Xv]
      simp only[e0,DQ,Qa,Qb,Qc,Qd,Qe,Qf,Qg,Qh,Qi,Qj,Qk,Ql,Qm,Qn,true_and,and_true,Qo,Qp,Qq,Qr,Qs,Qt,Qu,Qv,Qw,Qx,Qy,Qz,Ra,Rb,Rc,Rd,Re,Rf,Rg,Rh,Ri,Rj,Rk,Rl,Rm,Ya,Yb,Yc,Rn,Ro,Xv,Yd,Ye,Rq,Rs,Rt,Ru,Rw,Rx,Ry,Rz,Wa,Wb,Wc,Wd,We,Wf,Wg,Wh,Wi,Wj,Wl,Wm,Wn,Wp,Wq,Wr,Ws,Wt,Wu,Wv,Ww,Wx,Wy,Wz,Xa,Xb,Xc,Xd,Xe,Xf,Xg,Xh,Xi,Xj,Xk,Xl,Xm,Xn,Xo,Xp,Xq,Xr,ZC,ZF,ZE,ZD,ZH,ZI,List.getElem?_cons_zero,List.getElem?_cons_succ,ZG,ZJ,ZK,ZL,ZB,Nat.reduceAdd,Nat.reduceLT,Nat.reduceLeDiff,decide_true,decide_false,Bool.true_and,Bool.and_true,ZM,Y9,Option.some.injEq,Xs,Xt,Xu,Xv]
      refine hp _ _ fun s' O' h1 h2 h3=>?_
      simp only[Qa,Qb,Qc,Qd,Qe,Qf,Qg,Qh,Qi,Qj,Qk,Ql,Qm,Qn,true_and,and_true,Qo,Qp,Qq,Qr,Qs,Qt,Qu,Qv,Qw,Qx,Qy,Qz,Ra,Rb,Rc,Rd,Re,Rf,Rg,Rh,Ri,Rj,Rk,Rl,Rm,Ya,Yb,Yc,Rn,Ro,Xv,Yd,Ye,Rq,Rs,Rt,Ru,Rw,Rx,Ry]
      exact hK s' O' h1 h2 h3
end
def YP:Tm→Nat
 | .con n=>n
 | _=>0
def enc(S:List Tm)(t:Tm):RP:=(t.kind,t.id,YP t,t.kids.map fun k=>(ix S k:Int))
theorem EG(x y:List Nat):AU Tryz.prog .eql 9 (.str x) (.str y)=some (.bool (BU x y)):=rfl
def kB:List Tm:=[AP,.con 10,.upd (.con 10) AP (.con 10)]
def kS(n:Nat):List Tm:=kB++(List.range n).map Ae
def YD:Tm→Nat
 | .upd d _ _=>YD d+1
 | _=>0
theorem IE:∀n,YD (Ae n)=n
 | 0=>rfl
 | n+1=>by show YD (Ae n)+1=_;rw[IE n]
theorem LI:∀n,(Ae n).has (-3)=true
 | 0=>rfl
 | n+1=>by show((Ae n).has (-3) || (Ae n).has (-3) || (Ae n).has (-3))=true;rw[LI n];rfl
theorem Of{n:Nat}:Ae n ∉ kB:=fun h=>by
 have h1:=LI n
 simp only[kB,Zd,Zj,or_false]at h
 rcases h with h | h | h<;>(rw[h]at h1;revert h1;decide)
theorem Q5{n:Nat}:Ae n ∉ kS n:=fun h=>by
 rcases List.mem_append.1 h with h | h
 ·exact Of h
 ·obtain⟨k,hk,he⟩:=List.mem_map.1 h
  have:=congrArg YD he
  rw[IE,IE]at this
  have:=List.mem_range.1 hk
  omega
theorem Gt(n:Nat):push (kS n) (Ae n)=kS (n+1):=by
 unfold push
 rw[if_neg Q5]
 unfold kS
 rw[List.range_succ,Zz,Zk];rfl
theorem Cw(n:Nat):(kS n).length=3+n:=by simp[kS,kB];omega
theorem WM{n k:Nat}(h:k<n):(kS n)[3+k]? = some (Ae k):=by
 unfold kS
 rw[Zc (by simp[kB])]
 have:3+k - kB.length=k:=by simp[kB]
 rw[this,Zg,List.getElem?_range h];rfl
theorem GF{n k:Nat}(h:k<n):ET (kS n) (3+k:Nat) (Ae k):=CP (WM h)
def YF:Nat→Nat
 | 0=>1
 | n+1=>min (min (min (1+YF n) 4097+YF n) 4097+YF n) 4097
theorem Kk:∀n,(Ae n).sz=YF n
 | 0=>rfl
 | n+1=>by show min (min (min (1+(Ae n).sz) 4097+(Ae n).sz) 4097+(Ae n).sz) 4097=_;rw[Kk n];rfl
theorem YE:(Ae 7).sz=3280:=by rw[Kk];decide
theorem Y6:(Ae 8).sz=4097:=by rw[Kk];decide
theorem Vk:G3 (Ae 7)=CQ (Ae 7):=if_neg (by rw[YE];omega)
theorem X7:G3 (Ae 8)=[]:=if_pos (by rw[Y6];omega)
def kE:List Tm:=kS 9++[.bnd 2,.bnd 0]
theorem Me{i:Int}(h:Tm.bnd i∈kS 9):False:=by
 rcases List.mem_append.1 h with h | h
 ·simp[kB,AP]at h
 ·obtain⟨k,_,he⟩:=List.mem_map.1 h
  cases k<;>cases he
theorem WL{i:Int}(h:Tm.var i∈kS 9):i=-3:=by
 rcases List.mem_append.1 h with h | h
 ·simp[kB,AP]at h
 ·obtain⟨k,_,he⟩:=List.mem_map.1 h
  cases k with
  | zero=>injection he with he;exact he.symm
  | succ k=>cases he
theorem Hp:Told kE:=by
 constructor
 ·intro i h
  rcases List.mem_append.1 h with h | h
  ·have:=WL h;omega
  ·simp at h
 ·intro i h
  rcases List.mem_append.1 h with h | h
  ·exact absurd h Me
  ·simp at h;omega
theorem Tv:push (kS 9) (.bnd (max 2 0))=kS 9++[.bnd 2]:=by
 unfold push
 rw[show(max 2 0:Int)=2 from rfl,if_neg Me]
theorem Tu:push (kS 9++[.bnd 2]) (.bnd (max (-1) 0))=kE:=by
 unfold push
 rw[show(max (-1) 0:Int)=0 from rfl,if_neg (fun h=>by
  rcases List.mem_append.1 h with h | h
  ·exact Me h
  ·simp at h)]
 unfold kE
 rw[Zk];rfl
theorem R4:kE.length=14:=by simp[kE,Cw]
theorem SV:ET kE 12 (.bnd 2):=CP (k:=12) (by unfold kE;rw[Zc (by rw[Cw];omega)];rw[Cw];rfl)
theorem SU:ET kE 13 (.bnd 0):=CP (k:=13) (by unfold kE;rw[Zc (by rw[Cw];omega)];rw[Cw];rfl)
theorem Mf:∃x,kE=kS 9++x:=⟨_,rfl⟩
theorem LZ{k:Nat}(h:k<9):ET kE (3+k:Nat) (Ae k):=(GF h).ext Mf
theorem SW{n:Nat}:ET (kS n) 0 AP:=CP (k:=0) rfl
theorem Nx{n:Nat}:ET (kS n) 2 (.upd (.con 10) AP (.con 10)):=CP (k:=2) rfl
theorem To:B4 (FV [AP]) (.bnd 2)=.bnd 1:=rfl
theorem QR:B4 (EH [5,6]) (.bnd 2)=.bnd 4:=rfl
theorem TC:Cy 0=[48]∧Cy 1=[49]∧Cy 4=[52]:=⟨by kernel_rfl,by kernel_rfl,by kernel_rfl⟩
theorem UB:BU (CQ (Ae 7)) []=false:=rfl
theorem Tk(x y:List Nat):AU Tryz.prog .neq 9 (.str x) (.str y)=some (.bool (!BU x y)):=rfl
section
variable{E:Bt}(hE:A0 E){s:AE}{p:Nat}{S:List Tm}{O:List Nat}(h:AN s p S O){t:Tm}(ht:t∈S){K:AV→AE→Prop}
include hE h ht
theorem R9(h0:0<t.kids.length)(hK:∀j s',B7 s.next s s'→s'.heap.get j=some (R 3 1 true (CS (IZ S t)))→j<s'.next→s.next≤j→K (.slice (some (j,0)) t.kids.length none) s'):WF E 18 [.ptr (some (p,0)),iv (ix S t:Int)] K s:=by
 obtain⟨c0,c1,c2,c3,c4,c5,c6,hc,d0,d1,d2,d3,d4,d5,d6⟩:=t.cells7 (h.ok.ok t ht)
 refine hE.go Vs (by decide) rfl ?_
 simp only[Yr,UX,UY,Qa,Qb,Qc,Qd,Qe,Qf,Qg,Qh,Qi,Qj,Qk,Ql,Qm,Qn,true_and,and_true,Qo,Qp,Qq,Qr,Qs,Qt,Qu,Qv,Qw,Qx,Qy,Qz,Ra,Rb,Rc,Rd,Re,Rf,Rg,Rh,Ri,Rj,Rk,Rl,Rm,Ya,Yb,Yc,Rn,Ro,Xv,Yd,Ye,Rq,Rs,Rt,Ru,Rw,Rx,Ry,Rz,Wa,Wb,Wc,Wd,We,Wf,Wg,Wh,Wi,Wj,Wl,Wm,Wn,Wp,Wq,Wr,Ws,Wt,Wu,Wv,Ww,Wx,Wy,Wz,Xa,Xb,Xc,Xd,Xe,Xf,Xg,Xh,Xi,Xj,Xk,Xl,Xm,Xn,Xo,Xp,Xq,Xr,ZC,ZF,ZE,ZD,ZH,ZI,List.getElem?_cons_zero,List.getElem?_cons_succ,ZG,ZJ,ZK,ZL,ZB,Nat.reduceAdd,Nat.reduceLT,Nat.reduceLeDiff,decide_true,decide_false,Bool.true_and,Bool.and_true,ZM,Y9,Option.some.injEq,Xs,Xt,Xu,Xv]
 refine NG hE h ht fun r s' ho he=>?_
 obtain⟨m,rfl,_,_⟩:=he
 generalize hs:s'.next=b
 have hs0:s'=ext s' []:=(AZ s').symm
 rw[hs0]
 simp only[Qa,Qb,Qc,Qd,Qe,Qf,Qg,Qh,Qi,Qj,Qk,Ql,Qm,Qn,true_and,and_true,Qo,Qp,Qq,Qr,Qs,Qt,Qu,Qv,Qw,Qx,Qy,Qz,Ra,Rb,Rc,Rd,Re,Rf,Rg,Rh,Ri,Rj,Rk,Rl,Rm,Ya,Yb,Yc,Rn,Ro,Xv,Yd,Ye,Rq,Rs,Rt,Ru,Rw,Rx,Ry,UZ,A7,BB,hc,G5,ER,F9,Dx,Be,IH,IG,hs,d0,d1,d2,d3,d4,d5,d6,OC (KG t),Rz,Wa,Wb,Wc,Wd,We,Wf,Wg,Wh,Wi,Wj,Wl,Wm,Wn,Wp,Wq,Wr,Ws,Wt,Wu,Wv,Ww,Wx,Wy,Wz,Xa,Xb,Xc,Xd,Xe,Xf,Xg,Xh,Xi,Xj,Xk,Xl,Xm,Xn,Xo,Xp,Xq,Xr,ZC,ZF,ZE,ZD,ZH,ZI,List.getElem?_cons_zero,List.getElem?_cons_succ,ZG,ZJ,ZK,ZL,ZB,Nat.reduceAdd,Nat.reduceLT,Nat.reduceLeDiff,decide_true,decide_false,Bool.true_and,Bool.and_true,ZM,Y9,Option.some.injEq,Xs,Xt,Xu,Xv]
 generalize hs2:ext s' _=s2
 have hold:B7 s'.next s' s2:=by rw[← hs2];exact AK
 have hn2:s2.next=nid b 1:=by rw[← hs2,Wm,hs];rfl
 have ho2:B7 s.next s s2:=ho.trans (hold.mono ho.1)
 have hn:=ho2.1
 have hfin:∀os v,Ap (ext s2 os) v (IZ S t)→True:=fun _ _ _=>trivial
 refine K8 hE (l:=IZ S t) (.inr ⟨nid b 0,2,some 3,by rw[D5],by rw[hn2,AH,AH];omega,?_⟩) (by rw[D5];exact h0) (by rw[D5];have:=Cd t;omega) ?_
 ·rw[← hs2,Wg hs (by simp),D5]
  show Bs (some (R _ _ _ _)) _ _=_
  rw[Wj (by simp;have:=Cd t;omega)]
  cases t<;>rfl
 ·rw[D5]
  simp only[Qa,Qb,Qc,Qd,Qe,Qf,Qg,Qh,Qi,Qj,Qk,Ql,Qm,Qn,true_and,and_true,Qo,Qp,Qq,Qr,Qs,Qt,Qu,Qv,Qw,Qx,Qy,Qz,Ra,Rb,Rc,Rd,Re,Rf,Rg,Rh,Ri,Rj,Rk,Rl,Rm,Ya,Yb,Yc,Rn,Ro,Xv,Yd,Ye,Rq,Rs,Rt,Ru,Rw,Rx,Ry,Rz,Wa,Wb,Wc,Wd,We,Wf,Wg,Wh,Wi,Wj,Wl,Wm,Wn,Wp,Wq,Wr,Ws,Wt,Wu,Wv,Ww,Wx,Wy,Wz,Xa,Xb,Xc,Xd,Xe,Xf,Xg,Xh,Xi,Xj,Xk,Xl,Xm,Xn,Xo,Xp,Xq,Xr,ZC,ZF,ZE,ZD,ZH,ZI,List.getElem?_cons_zero,List.getElem?_cons_succ,ZG,ZJ,ZK,ZL,ZB,Nat.reduceAdd,Nat.reduceLT,Nat.reduceLeDiff,decide_true,decide_false,Bool.true_and,Bool.and_true,ZM,Y9,Option.some.injEq,Xs,Xt,Xu,Xv]
  exact hK (nid s2.next 1) _ (ho2.trans (AK.mono ho2.1)) (by rw[Wg rfl (by simp)];rfl) (by rw[Wm,AH,AH];simp) (by rw[AH];omega)
end
end
end Go.Proofs.YtickdehehcmfbaaGreatDoor.Am
set_option linter.unusedVariables false
set_option linter.unusedSimpArgs false
set_option maxRecDepth 100000
namespace Go.Proofs.YtickdehehcmfbaaGreatDoor.Am
open Go Go.Proofs
noncomputable section
def XM:List AD:=[
 ⟨none,.p1 some,[(.const (.bool false))],(.set 0),[]⟩]
def XN:List AD:=[
 ⟨none,.p1 some,[(.const (.ptr none))],(.set 1),[]⟩]
def XP:List AD:=[
 ⟨none,.call 28,[],.push,[]⟩,
 ⟨none,.p1 some,[.loc 0],(.set 2),[]⟩]
def XQ:List AD:=[
 ⟨none,.p2 (AU Tryz.prog .eql 25),[(.var 2),(.const (.ptr none))],(.set 14),[]⟩]
def YO:List AD:=[
 ⟨none,.p1 some,[(.const (.bool false))],(.set 0),[]⟩]
def XR:List AD:=[
 ⟨none,.p (fun l=>Ab Tryz.prog 43 (zipIdx [] l)),[],.push,[]⟩,
 ⟨none,.call 22,[.var 2,.loc 0],.push,[]⟩,
 ⟨none,.p1 some,[.loc 0],(.set 3),[]⟩]
def XS:List AD:=[
 ⟨none,.p (fun l=>Ab Tryz.prog 43 (zipIdx [0,6] l)),[(.const (.int .i64 (5))),(.const (.int .i64 (3)))],.push,[]⟩,
 ⟨none,.call 22,[.var 2,.loc 0],.push,[]⟩,
 ⟨none,.mk (fun l=>(AW Tryz.prog 39 1 (zipIdx [0] l)).bind fun r=>some (r,.slice 1)),[(.const (.str [97]))],.push,[]⟩,
 ⟨none,.p (fun l=>Ab Tryz.prog 43 (zipIdx [] l)),[],.push,[]⟩,
 ⟨none,.mk (fun l=>(AW Tryz.prog 41 1 (zipIdx [0] l)).bind fun r=>some (r,.slice 1)),[.loc 0],.push,[]⟩,
 ⟨none,.p (fun l=>Ab Tryz.prog 43 (zipIdx [0,4,5] l)),[(.const (.int .i64 (4))),(.loc 2),(.loc 0)],.push,[]⟩,
 ⟨none,.call 22,[.var 2,.loc 0],.push,[]⟩,
 ⟨none,.p1 some,[.loc 5],(.set 4),[]⟩,
 ⟨none,.p1 some,[.loc 0],(.set 5),[]⟩]
def XT:List AD:=[
 ⟨none,.p (fun l=>Ab Tryz.prog 43 (zipIdx [0,2] l)),[(.const (.int .i64 (2))),(.const (.str [48,49]))],.push,[]⟩,
 ⟨none,.call 22,[.var 2,.loc 0],.push,[]⟩,
 ⟨none,.p (fun l=>Ab Tryz.prog 43 (zipIdx [0] l)),[(.const (.int .i64 (4)))],.push,[]⟩,
 ⟨none,.call 22,[.var 2,.loc 0],.push,[]⟩,
 ⟨none,.p1 some,[.loc 2],(.set 6),[]⟩,
 ⟨none,.p1 some,[.loc 0],(.set 7),[]⟩]
def XU:List AD:=[
 ⟨none,.call 25,[.var 2,.var 7,.var 3,.var 7],.push,[]⟩,
 ⟨none,.call 18,[.var 2,.loc 0],.push,[]⟩,
 ⟨none,.p1 some,[.loc 0],(.set 8),[]⟩]
def XV:List AD:=[
 ⟨none,.r (fun s l=>match l with | [x]=>Ce Tryz.prog s 27 x | _=>none),[.var 8],.push,[]⟩,
 ⟨none,.p2 (AU Tryz.prog .neq 3),[(.loc 0),(.const (.int .i64 (3)))],(.set 15),[]⟩]
def XO:List AD:=[
 ⟨none,.p1 some,[(.const (.bool false))],(.set 0),[]⟩]
def VW:List AD:=[
 ⟨none,.p2 (AQ Tryz.prog 27),[(.var 8),(.const (.int .i64 (0)))],.push,[]⟩,
 ⟨none,.e (fun s=>Xs (fun a x=>Xu (BH Tryz.prog s 3 a x))),[(.loc 0),(.const (.int .i64 (99)))],.push,[]⟩]
def VX:List AD:=[
 ⟨none,.call 11,[(.var 2),(.const (.int .i64 (-3)))],.push,[]⟩,
 ⟨none,.p1 some,[.loc 0],(.set 9),[]⟩]
def VY:List AD:=[
 ⟨none,.p1 some,[(.const (.int .i64 (0)))],(.set 10),[]⟩]
def QL:List AD:=[
 ⟨none,.p2 (AU Tryz.prog .lss 3),[(.var 10),(.const (.int .i64 (7)))],(.set 16),[]⟩]
def VZ:List AD:=[
 ⟨none,.p1 some,[.var 9],.push,[]⟩,
 ⟨none,.p1 some,[.var 9],.push,[]⟩,
 ⟨none,.p1 some,[.var 9],.push,[]⟩,
 ⟨none,.call 25,[.var 2,.loc 2,.loc 1,.loc 0],.push,[]⟩,
 ⟨none,.p1 some,[.loc 0],(.set 9),[]⟩]
def Va:List AD:=[
 ⟨none,.p1 some,[.var 10],.push,[]⟩,
 ⟨none,.p2 (AU Tryz.prog .add 3),[(.loc 0),(.const (.int .i64 (1)))],.push,[]⟩,
 ⟨none,.p1 some,[.loc 0],(.set 10),[]⟩]
def K5:Ai:=(.seq (.seq (.ops QL) (.cond (.var 16)
 .skip
 (.exit 0))) (.seq (.block 1 (.ops VZ)) (.ops Va)))
def Vb:List AD:=[
 ⟨none,.call 25,[.var 2,.var 9,.var 9,.var 9],.push,[]⟩,
 ⟨none,.p1 some,[.loc 0],(.set 11),[]⟩]
def Vc:List AD:=[
 ⟨none,.call 21,[(.var 2),(.const (.int .i64 (2)))],.push,[]⟩,
 ⟨none,.call 21,[(.var 2),(.const (.int .i64 (-1)))],.push,[]⟩,
 ⟨none,.p1 some,[.loc 1],(.set 12),[]⟩,
 ⟨none,.p1 some,[.loc 0],(.set 13),[]⟩]
def QM:List AD:=[
 ⟨(some ((.const (.bool true)),true)),.call 7,[],.push,[]⟩,
 ⟨none,.p Rn,[(.const (.bool true)),(.loc 0),(.const (.bool false))],.push,[]⟩,
 ⟨(some ((.loc 0),true)),.p1 some,[.var 3],.push,[]⟩,
 ⟨(some ((.loc 1),true)),.p2 (AU Tryz.prog .eql 3),[(.loc 0),(.const (.int .i64 (0)))],.push,[]⟩,
 ⟨none,.p Rn,[(.loc 2),(.loc 0),(.const (.bool false))],.push,[]⟩,
 ⟨(some ((.loc 0),true)),.p1 some,[.var 4],.push,[]⟩,
 ⟨(some ((.loc 1),true)),.p2 (AU Tryz.prog .eql 3),[(.loc 0),(.const (.int .i64 (0)))],.push,[]⟩,
 ⟨none,.p Rn,[(.loc 2),(.loc 0),(.const (.bool false))],.push,[]⟩,
 ⟨(some ((.loc 0),true)),.p1 some,[.var 5],.push,[]⟩,
 ⟨(some ((.loc 1),true)),.p2 (AU Tryz.prog .eql 3),[(.loc 0),(.const (.int .i64 (0)))],.push,[]⟩,
 ⟨none,.p Rn,[(.loc 2),(.loc 0),(.const (.bool false))],.push,[]⟩,
 ⟨(some ((.loc 0),true)),.p1 some,[.var 6],.push,[]⟩,
 ⟨(some ((.loc 1),true)),.p2 (AU Tryz.prog .eql 3),[(.loc 0),(.const (.int .i64 (0)))],.push,[]⟩,
 ⟨none,.p Rn,[(.loc 2),(.loc 0),(.const (.bool false))],.push,[]⟩,
 ⟨(some ((.loc 0),true)),.p1 some,[.var 7],.push,[]⟩,
 ⟨(some ((.loc 1),true)),.p2 (AU Tryz.prog .eql 3),[(.loc 0),(.const (.int .i64 (1)))],.push,[]⟩,
 ⟨none,.p Rn,[(.loc 2),(.loc 0),(.const (.bool false))],.push,[]⟩,
 ⟨(some ((.loc 0),true)),.p1 some,[.var 2],.push,[]⟩,
 ⟨(some ((.loc 1),true)),.call 18,[(.loc 0),(.const (.int .i64 (2)))],.push,[]⟩,
 ⟨(some ((.loc 2),true)),.p2 (AQ Tryz.prog 27),[(.loc 0),(.const (.int .i64 (0)))],.push,[]⟩,
 ⟨(some ((.loc 3),true)),.r1 (fun s a=>AO Tryz.prog s 3 a),[.loc 0],.push,[]⟩,
 ⟨(some ((.loc 4),true)),.p2 (AU Tryz.prog .eql 3),[(.loc 0),(.const (.int .i64 (1)))],.push,[]⟩,
 ⟨none,.p Rn,[(.loc 5),(.loc 0),(.const (.bool false))],.push,[]⟩,
 ⟨(some ((.loc 0),true)),.p1 some,[.var 2],.push,[]⟩,
 ⟨(some ((.loc 1),true)),.p1 some,[.var 9],.push,[]⟩,
 ⟨(some ((.loc 2),true)),.call 15,[.loc 1,.loc 0],.push,[]⟩,
 ⟨(some ((.loc 3),true)),.p2 (AU Tryz.prog .eql 3),[(.loc 0),(.const (.int .i64 (3280)))],.push,[]⟩,
 ⟨none,.p Rn,[(.loc 4),(.loc 0),(.const (.bool false))],.push,[]⟩,
 ⟨(some ((.loc 0),true)),.p1 some,[.var 2],.push,[]⟩,
 ⟨(some ((.loc 1),true)),.p1 some,[.var 9],.push,[]⟩,
 ⟨(some ((.loc 2),true)),.call 26,[.loc 1,.loc 0],.push,[]⟩,
 ⟨(some ((.loc 3),true)),.p2 (AU Tryz.prog .neq 9),[(.loc 0),(.const (.str []))],.push,[]⟩,
 ⟨none,.p Rn,[(.loc 4),(.loc 0),(.const (.bool false))],.push,[]⟩,
 ⟨(some ((.loc 0),true)),.p1 some,[.var 2],.push,[]⟩,
 ⟨(some ((.loc 1),true)),.p1 some,[.var 9],.push,[]⟩,
 ⟨(some ((.loc 2),true)),.call 26,[.loc 1,.loc 0],.push,[]⟩,
 ⟨(some ((.loc 3),true)),.call 29,[(.loc 0),(.const (.str [120,45,51]))],.push,[]⟩,
 ⟨(some ((.loc 4),true)),.p2 (AU Tryz.prog .eql 3),[(.loc 0),(.const (.int .i64 (2187)))],.push,[]⟩,
 ⟨none,.p Rn,[(.loc 5),(.loc 0),(.const (.bool false))],.push,[]⟩,
 ⟨(some ((.loc 0),true)),.p1 some,[.var 2],.push,[]⟩,
 ⟨(some ((.loc 1),true)),.p1 some,[.var 11],.push,[]⟩,
 ⟨(some ((.loc 2),true)),.call 15,[.loc 1,.loc 0],.push,[]⟩,
 ⟨(some ((.loc 3),true)),.p2 (AU Tryz.prog .eql 3),[(.loc 0),(.const (.int .i64 (4097)))],.push,[]⟩,
 ⟨none,.p Rn,[(.loc 4),(.loc 0),(.const (.bool false))],.push,[]⟩,
 ⟨(some ((.loc 0),true)),.p1 some,[.var 2],.push,[]⟩,
 ⟨(some ((.loc 1),true)),.p1 some,[.var 11],.push,[]⟩,
 ⟨(some ((.loc 2),true)),.call 26,[.loc 1,.loc 0],.push,[]⟩,
 ⟨(some ((.loc 3),true)),.p2 (AU Tryz.prog .eql 9),[(.loc 0),(.const (.str []))],.push,[]⟩,
 ⟨none,.p Rn,[(.loc 4),(.loc 0),(.const (.bool false))],.push,[]⟩,
 ⟨(some ((.loc 0),true)),.p1 some,[.var 2],.push,[]⟩,
 ⟨(some ((.loc 1),true)),.p1 some,[.var 2],.push,[]⟩,
 ⟨(some ((.loc 2),true)),.p1 some,[.var 12],.push,[]⟩,
 ⟨(some ((.loc 3),true)),.p1 some,[.var 3],.push,[]⟩,
 ⟨(some ((.loc 4),true)),.mk (fun l=>(AW Tryz.prog 27 1 (zipIdx [0] l)).bind fun r=>some (r,.slice 1)),[.loc 0],.push,[]⟩,
 ⟨(some ((.loc 5),true)),.call 14,[.loc 3,.loc 2,.loc 0],.push,[]⟩,
 ⟨(some ((.loc 6),true)),.call 26,[.loc 5,.loc 0],.push,[]⟩,
 ⟨(some ((.loc 7),true)),.p2 (AU Tryz.prog .eql 9),[(.loc 0),(.const (.str [98,49]))],.push,[]⟩,
 ⟨none,.p Rn,[(.loc 8),(.loc 0),(.const (.bool false))],.push,[]⟩,
 ⟨(some ((.loc 0),true)),.p1 some,[.var 2],.push,[]⟩,
 ⟨(some ((.loc 1),true)),.p1 some,[.var 13],.push,[]⟩,
 ⟨(some ((.loc 2),true)),.call 26,[.loc 1,.loc 0],.push,[]⟩,
 ⟨(some ((.loc 3),true)),.p2 (AU Tryz.prog .eql 9),[(.loc 0),(.const (.str [98,48]))],.push,[]⟩,
 ⟨none,.p Rn,[(.loc 4),(.loc 0),(.const (.bool false))],.push,[]⟩,
 ⟨(some ((.loc 0),true)),.p1 some,[.var 2],.push,[]⟩,
 ⟨(some ((.loc 1),true)),.p1 some,[.var 2],.push,[]⟩,
 ⟨(some ((.loc 2),true)),.p1 some,[.var 12],.push,[]⟩,
 ⟨(some ((.loc 3),true)),.mk (fun l=>(AW Tryz.prog 27 2 (zipIdx [0,1] l)).bind fun r=>some (r,.slice 2)),[(.const (.int .i64 (5))),(.const (.int .i64 (6)))],.push,[]⟩,
 ⟨(some ((.loc 4),true)),.call 12,[.loc 2,.loc 1,.loc 0],.push,[]⟩,
 ⟨(some ((.loc 5),true)),.call 26,[.loc 4,.loc 0],.push,[]⟩,
 ⟨(some ((.loc 6),true)),.p2 (AU Tryz.prog .eql 9),[(.loc 0),(.const (.str [98,52]))],.push,[]⟩,
 ⟨none,.p Rn,[(.loc 7),(.loc 0),(.const (.bool false))],.push,[]⟩,
 ⟨(some ((.loc 0),true)),.p1 some,[.var 2],.push,[]⟩,
 ⟨(some ((.loc 1),true)),.call 19,[(.loc 0),(.const (.int .i64 (-1)))],.push,[]⟩,
 ⟨(some ((.loc 2),true)),.p2 (AU Tryz.prog .eql 3),[(.loc 0),(.const (.int .i64 (2)))],.push,[]⟩,
 ⟨none,.p Rn,[(.loc 3),(.loc 0),(.const (.bool false))],.push,[]⟩,
 ⟨(some ((.loc 0),true)),.p1 some,[.var 2],.push,[]⟩,
 ⟨(some ((.loc 1),true)),.call 19,[(.loc 0),(.const (.int .i64 (9999)))],.push,[]⟩,
 ⟨(some ((.loc 2),true)),.p2 (AU Tryz.prog .eql 3),[(.loc 0),(.const (.int .i64 (2)))],.push,[]⟩,
 ⟨none,.p Rn,[(.loc 3),(.loc 0),(.const (.bool false))],.push,[]⟩,
 ⟨(some ((.loc 0),true)),.p1 some,[.var 2],.push,[]⟩,
 ⟨(some ((.loc 1),true)),.call 23,[(.loc 0),(.const (.int .i64 (-7)))],.push,[]⟩,
 ⟨(some ((.loc 2),true)),.call 30,[.loc 0],.push,[]⟩,
 ⟨(some ((.loc 3),true)),.p2 (AU Tryz.prog .eql 9),[(.loc 0),(.const (.str [110,117,108,108]))],.push,[]⟩,
 ⟨none,.p Rn,[(.loc 4),(.loc 0),(.const (.bool false))],.push,[]⟩,
 ⟨(some ((.loc 0),true)),.p1 some,[.var 2],.push,[]⟩,
 ⟨(some ((.loc 1),true)),.call 15,[(.loc 0),(.const (.int .i64 (-1)))],.push,[]⟩,
 ⟨(some ((.loc 2),true)),.p2 (AU Tryz.prog .eql 3),[(.loc 0),(.const (.int .i64 (1)))],.push,[]⟩,
 ⟨none,.p Rn,[(.loc 3),(.loc 0),(.const (.bool false))],.push,[]⟩,
 ⟨(some ((.loc 0),true)),.p1 some,[.var 2],.push,[]⟩,
 ⟨(some ((.loc 1),true)),.call 26,[(.loc 0),(.const (.int .i64 (-1)))],.push,[]⟩,
 ⟨(some ((.loc 2),true)),.p2 (AU Tryz.prog .eql 9),[(.loc 0),(.const (.str [110,117,108,108]))],.push,[]⟩,
 ⟨none,.p Rn,[(.loc 3),(.loc 0),(.const (.bool false))],.push,[]⟩,
 ⟨(some ((.loc 0),true)),.p1 some,[.var 1],.push,[]⟩,
 ⟨(some ((.loc 1),true)),.call 11,[(.loc 0),(.const (.int .i64 (1)))],.push,[]⟩,
 ⟨(some ((.loc 2),true)),.p2 (AU Tryz.prog .eql 3),[(.loc 0),(.const (.int .i64 (0)))],.push,[]⟩,
 ⟨none,.p Rn,[(.loc 3),(.loc 0),(.const (.bool false))],.push,[]⟩,
 ⟨(some ((.loc 0),true)),.p1 some,[.var 1],.push,[]⟩,
 ⟨(some ((.loc 1),true)),.call 10,[.loc 0],.push,[]⟩,
 ⟨(some ((.loc 2),true)),.p2 (AU Tryz.prog .eql 3),[(.loc 0),(.const (.int .i64 (0)))],.push,[]⟩,
 ⟨none,.p Rn,[(.loc 3),(.loc 0),(.const (.bool false))],.push,[]⟩,
 ⟨(some ((.loc 0),true)),.p1 some,[.var 1],.push,[]⟩,
 ⟨(some ((.loc 1),true)),.call 24,[(.loc 0),(.const (.int .i64 (0))),(.const (.int .i64 (0)))],.push,[]⟩,
 ⟨(some ((.loc 2),true)),.p2 (AU Tryz.prog .eql 3),[(.loc 0),(.const (.int .i64 (0)))],.push,[]⟩,
 ⟨none,.p Rn,[(.loc 3),(.loc 0),(.const (.bool false))],.push,[]⟩,
 ⟨(some ((.loc 0),true)),.p1 some,[.var 1],.push,[]⟩,
 ⟨(some ((.loc 1),true)),.call 26,[(.loc 0),(.const (.int .i64 (0)))],.push,[]⟩,
 ⟨(some ((.loc 2),true)),.p2 (AU Tryz.prog .eql 9),[(.loc 0),(.const (.str []))],.push,[]⟩,
 ⟨none,.p Rn,[(.loc 3),(.loc 0),(.const (.bool false))],.push,[]⟩,
 ⟨(some ((.loc 0),true)),.p1 some,[.var 1],.push,[]⟩,
 ⟨(some ((.loc 1),true)),.call 13,[(.loc 0),(.const (.int .i64 (0)))],.push,[]⟩,
 ⟨(some ((.loc 2),true)),.r (fun s l=>match l with | [x]=>Ce Tryz.prog s 27 x | _=>none),[.loc 0],.push,[]⟩,
 ⟨(some ((.loc 3),true)),.p2 (AU Tryz.prog .eql 3),[(.loc 0),(.const (.int .i64 (0)))],.push,[]⟩,
 ⟨none,.p Rn,[(.loc 4),(.loc 0),(.const (.bool false))],.push,[]⟩,
 ⟨(some ((.loc 0),true)),.p1 some,[.var 1],.push,[]⟩,
 ⟨(some ((.loc 1),true)),.call 15,[(.loc 0),(.const (.int .i64 (0)))],.push,[]⟩,
 ⟨(some ((.loc 2),true)),.p2 (AU Tryz.prog .eql 3),[(.loc 0),(.const (.int .i64 (0)))],.push,[]⟩,
 ⟨none,.p Rn,[(.loc 3),(.loc 0),(.const (.bool false))],.push,[]⟩,
 ⟨(some ((.loc 0),true)),.p1 some,[.var 1],.push,[]⟩,
 ⟨(some ((.loc 1),true)),.mk (fun l=>(AW Tryz.prog 27 1 (zipIdx [0] l)).bind fun r=>some (r,.slice 1)),[(.const (.int .i64 (4)))],.push,[]⟩,
 ⟨(some ((.loc 2),true)),.call 14,[(.loc 1),(.const (.int .i64 (3))),(.loc 0)],.push,[]⟩,
 ⟨(some ((.loc 3),true)),.p2 (AU Tryz.prog .eql 3),[(.loc 0),(.const (.int .i64 (0)))],.push,[]⟩,
 ⟨none,.p Rn,[(.loc 4),(.loc 0),(.const (.bool false))],.push,[]⟩,
 ⟨(some ((.loc 0),true)),.p1 some,[.var 1],.push,[]⟩,
 ⟨(some ((.loc 1),true)),.call 19,[(.loc 0),(.const (.int .i64 (5)))],.push,[]⟩,
 ⟨(some ((.loc 2),true)),.p2 (AU Tryz.prog .eql 3),[(.loc 0),(.const (.int .i64 (0)))],.push,[]⟩,
 ⟨none,.p Rn,[(.loc 3),(.loc 0),(.const (.bool false))],.push,[]⟩,
 ⟨none,.p1 some,[.loc 0],(.set 0),[]⟩]
def c6:BC:=⟨0,17,(.seq (.ops XM) (.seq (.ops XN) (.seq (.ops XP) (.seq (.seq (.ops XQ) (.cond (.var 14)
 (.seq (.ops YO) .ret)
 .skip)) (.seq (.ops XR) (.seq (.ops XS) (.seq (.ops XT) (.seq (.ops XU) (.seq (.seq (.ops XV) (.cond (.var 15)
 (.seq (.ops XO) .ret)
 .skip)) (.seq (.ops VW) (.seq (.ops VX) (.seq (.seq (.ops VY) (.block 0 (.loop K5))) (.seq (.ops Vb) (.seq (.ops Vc) (.seq (.ops QM) .ret))))))))))))))),[((.var 0),none)]⟩
theorem XX:AT Tryz.prog 6=some c6:=by kernel_rfl
end
end Go.Proofs.YtickdehehcmfbaaGreatDoor.Am
set_option linter.unusedVariables false
set_option linter.unusedSimpArgs false
namespace Go.Proofs.YtickdehehcmfbaaGreatDoor.Am
open Go Go.Proofs
noncomputable section
structure KW(o0:Option AX)(p:Nat)(s:AE)(S:List Tm)(O:List Nat):Prop where
 st:AN s p S O
 gl:BZ s O
 z:s.heap.get 0=o0
 zO:0 ∉ O
section
variable{o0:Option AX}{p:Nat}{s:AE}{S:List Tm}{O:List Nat}(w:KW o0 p s S O){K:AV→AE→Prop}
include w
theorem KW.step{s':AE}{S':List Tm}{O':List Nat}(h:AN s' p S' O')(f:C2 O s s')(g:Ac O O' s):KW o0 p s' S' O':=
 ⟨h,w.gl.step f g,(f.2 0 (by have:=w.gl.2.1;omega) w.zO).trans w.z,fun hm=>(g 0 hm).elim w.zO (fun hl=>by have:=w.gl.2.1;omega)⟩
theorem KW.old{s':AE}(k:B7 s.next s s'):KW o0 p s' S O:=w.step (w.st.old k) (k.frO O) (Ac.refl O s)
theorem KW.frame{s':AE}(hn:s.next≤s'.next)(k:∀j,j∈O∨j≤1→s'.heap.get j=s.heap.get j):KW o0 p s' S O:=
 ⟨w.st.frame hn fun j hj=>k j (.inl hj),⟨by rw[DB (k 1 (.inr (Y9 _)))];exact w.gl.1,ZS w.gl.2.1 hn,w.gl.2.2⟩,(k 0 (.inr (by omega))).trans w.z,w.zO⟩
theorem SK{n:Nat}(hn:n<13)(hs:S.length<100000)(hK:∀s' O',KW o0 p s' (push S (.con n)) O'→K (iv (ix (push S (.con n)) (.con n):Int)) s'):WF Cs 22 [.ptr (some (p,0)),.agg (Tm.con n).cells] K s:=
 OH AR w.st hs hn w.gl fun s' O' h1 h2 h3=>hK s' O' (w.step h1 h2 h3)
theorem WN(hs:S.length<100000)(hK:∀s' O',KW o0 p s' (push S AP) O'→K (iv (ix (push S AP) AP:Int)) s'):WF Cs 22 [.ptr (some (p,0)),.agg WG] K s:=
 Fi AR w.st hs w.gl rfl rfl rfl rfl rfl (r:=true) (fun os K hk=>N9 AR (w.gl.old AK).1 RK hk) (.inr (.inl rfl)) fun s' O' h1 h2 h3=>hK s' O' (w.step h1 h2 h3)
theorem WO(hs:S.length<100000)(hK:∀s' O',KW o0 p s' (push S AP) O'→K (iv (ix (push S AP) AP:Int)) s'):WF Cs 22 [.ptr (some (p,0)),.agg WV] K s:=
 Fi AR w.st hs w.gl rfl rfl rfl rfl rfl (r:=false) (fun os K hk=>N9 AR (w.gl.old AK).1 RL hk) (.inl rfl) fun s' O' h1 h2 h3=>hK s' O' (w.step h1 h2 h3)
theorem Tf(hs:S.length<100000){i j:Nat}(hi:s.heap.get i=some (R 9 1 false [.str [97]]))(hil:i<s.next)(hj:s.heap.get j=some (R 43 7 false Tm.nullC))(hjl:j<s.next)
  (hK:∀s' O',KW o0 p s' (push S AP) O'→K (iv (ix (push S AP) AP:Int)) s'):WF Cs 22 [.ptr (some (p,0)),Cn i j] K s:=by
 refine Fi AR w.st hs w.gl rfl rfl rfl rfl rfl (r:=true) (fun os K hk=>PA (w.gl.old AK).1 ?_ ?_ hk) (.inr (.inr ⟨rfl,i,rfl⟩)) fun s' O' h1 h2 h3=>hK s' O' (w.step h1 h2 h3)
 ·unfold IS
  rw[Wh hil,hi]
  kernel_rfl
 ·unfold IS
  rw[Wh hjl,hj]
  kernel_rfl
theorem Mh{d k a:Int}{u v t:Tm}(hs:S.length<99990)(hd:ET S d u)(hk:ET S k v)(ha:ET S a t)(hK:∀s' O',KW o0 p s' (push S (.upd u v t)) O'→K (iv (ix (push S (.upd u v t)) (.upd u v t):Int)) s'):WF Cs 25 [.ptr (some (p,0)),iv d,iv k,iv a] K s:=by
 have hth:EV S.length S [d,k,a]=S:=Km fun x hx=>by
  simp only[Zd,Zj,or_false]at hx
  rcases hx with rfl | rfl | rfl
  ·exact hd.1
  ·exact hk.1
  ·exact ha.1
 refine W2 AR w.st hs w.gl ?_
 rw[hth,hd.2,hk.2,ha.2]
 exact fun s' O' h1 h2 h3 h4=>hK s' O' (w.step h1 h3 h4)
theorem WP{i:Int}(hi:i64 i)(hs:S.length<100000)(hK:∀s' O',KW o0 p s' (push S (.var i)) O'→K (iv (ix (push S (.var i)) (.var i):Int)) s'):WF Cs 11 [.ptr (some (p,0)),iv i] K s:=
 UA AR w.st hs hi fun s' O' h1 h2 h3=>hK s' O' (w.step h1 h2 h3)
theorem SG{i:Int}(hi:i64 i)(hs:S.length<100000)(hK:∀s' O',KW o0 p s' (push S (.bnd (max i 0))) O'→K (iv (ix (push S (.bnd (max i 0))) (.bnd (max i 0)):Int)) s'):WF Cs 21 [.ptr (some (p,0)),iv i] K s:=
 Kl AR w.st hs hi fun s' O' h1 h2 h3=>hK s' O' (w.step h1 h2 h3)
theorem Nr{ti:Int}{u:Tm}(hn:ET S ti u)(hK:∀s',KW o0 p s' S O→K (iv (u.sz:Int)) s'):WF Cs 15 [.ptr (some (p,0)),iv ti] K s:=by
 rw[← hn.ix w.st.ok.nd]
 exact T1 AR w.st hn.mem fun s' ho=>hK s' (w.old ho)
theorem KJ{ti:Int}{u:Tm}(hT:Told S)(hn:ET S ti u)(hK:∀s',KW o0 p s' S O→K (.str (G3 u)) s'):WF Cs 26 [.ptr (some (p,0)),iv ti] K s:=by
 rw[← hn.ix w.st.ok.nd]
 exact T7 AR hT _ u (Zs _) hn.mem s K w.st w.gl fun s' ho=>hK s' (w.old ho)
theorem KH{ti i:Int}(hn:ET S ti (.bnd i))(hi:-3≤i∧i≤10)(hK:∀s',KW o0 p s' S O→K (.str (98::Cy i)) s'):WF Cs 26 [.ptr (some (p,0)),iv ti] K s:=by
 rw[← hn.ix w.st.ok.nd]
 exact S9 AR w.st w.gl hn.mem hi fun s' ho=>hK s' (w.old ho)
theorem Np{ti:Int}{u:Tm}(hn:ET S ti u)(h0:0<u.kids.length)(hK:∀j s',KW o0 p s' S O→s'.heap.get j=some (R 3 1 true (CS (IZ S u)))→j<s'.next→j ∉ O→1<j→K (.slice (some (j,0)) u.kids.length none) s'):WF Cs 18 [.ptr (some (p,0)),iv ti] K s:=by
 rw[← hn.ix w.st.ok.nd]
 exact R9 AR w.st hn.mem h0 fun j s' ho h1 h2 h3=>hK j s' (w.old ho) h1 h2 (fun hm=>by have:=w.st.lt j hm;omega) (by have:=w.gl.2.1;omega)
theorem Te{ti:Int}{u v:Tm}{bi:Int}{a:AV}(hS:S.length<1000)(hn:ET S ti u)(hv:ET S bi v)(hk:u.kids=[])(ha:Ap s a [bi])(hK:∀s' S' O' r,KW o0 p s' S' O'→(∃x,S'=S++x)→S'.length≤S.length+2→ET S' r (B4 (FV [v]) u)→K (iv r) s'):WF Cs 14 [.ptr (some (p,0)),iv ti,a] K s:=by
 refine Tq AR w.st w.gl (L:=[u]) (by simp;omega) ha (by simp) (fun t ht k hkt=>by rw[List.mem_singleton.1 ht,hk]at hkt;cases hkt) (by rw[hn.2];simp) fun s' S' O' h1 h2 h3 h4 h5 h6 h7=>?_
 rw[Km (fun x hx=>by simp only[Zd,Zj,or_false]at hx;rcases hx with rfl | rfl;exact hn.1;exact hv.1)]at h5
 simp only[ZV,List.map_nil,hn.2,hv.2]at h7 ⊢
 exact hK s' S' O' _ (w.step h1 h3 h4) h5 (by simp at h6;omega) (ET.of h7)
theorem SJ{ti:Int}{u:Tm}{ids:List Int}{a:AV}(hS:S.length<1000)(hn:ET S ti u)(hk:u.kids=[])(hb:∀i,u=.bnd i→i<1000000000)(ha:Dk s O a ids)(hl:ids.length≤1000)(hK:∀s' S' O' r,KW o0 p s' S' O'→(∃x,S'=S++x)→S'.length≤S.length+2→ET S' r (B4 (EH ids) u)→K (iv r) s'):WF Cs 12 [.ptr (some (p,0)),iv ti,a] K s:=by
 refine QT AR w.st w.gl (L:=[u]) (by simp;omega) ha (by omega) (fun i hi=>hb i (List.mem_singleton.1 hi).symm) (fun t ht k hkt=>by rw[List.mem_singleton.1 ht,hk]at hkt;cases hkt) (by rw[hn.2];simp) fun s' S' O' h1 h2 h3 h4 h5 h6 h7=>?_
 rw[Km (fun x hx=>by rw[List.mem_singleton.1 hx];exact hn.1)]at h5
 rw[hn.2]at h7 ⊢
 exact hK s' S' O' _ (w.step h1 h3 h4) h5 (by simp at h6;omega) (ET.of h7)
variable{x:Int}(hx:x<0∨(S.length:Int)≤x)
include hx
theorem Nq(hK:∀s',KW o0 p s' S O→K (iv 2) s'):WF Cs 19 [.ptr (some (p,0)),iv x] K s:=SB AR w.st w.gl hx fun s' ho=>hK s' (w.old ho)
theorem SH(hK:∀s',KW o0 p s' S O→K (iv 1) s'):WF Cs 15 [.ptr (some (p,0)),iv x] K s:=Sw AR w.st w.gl hx fun s' ho=>hK s' (w.old ho)
theorem SL(hK:∀s',KW o0 p s' S O→K (.agg Tm.nullC) s'):WF Cs 23 [.ptr (some (p,0)),iv x] K s:=Pa AR w.st w.gl hx fun s' ho=>hK s' (w.old ho)
theorem SI(hK:∀s',KW o0 p s' S O→K (.str [110,117,108,108]) s'):WF Cs 26 [.ptr (some (p,0)),iv x] K s:=S7 AR w.st w.gl hx fun s' ho=>hK s' (w.old ho)
end
end
end Go.Proofs.YtickdehehcmfbaaGreatDoor.Am
