/- append: the abstract machine's against the model's, whatever capacity is drawn; conditions: none. -/
import Derived.Test.YtoaaclpjkelofaaGreatDoorAmM01
import Derived.Maps.Keyed
import Derived.DeepKeys3
import Derived.Lib.UnsafeStr
import Derived.Lib.MakeNoZero
import Derived.Lib.Bytealg
import Derived.Lib.Builder
import Derived.KernelRfl
import Derived.LaidEql
set_option linter.all false
namespace Go.Proofs.YtoaaclpjkelofaaGreatDoor.Am
open Go
noncomputable section
section
variable{P:Program}{ρ ρ1 ρ2:DV}{s s1 s2:CO}{w w1 w2:World}
theorem DU.drawn(h:DU P ρ s w)(d:Nat):DU P ρ s { w with drawn:=d }:=
 ⟨fun i o rb hi hr=>(h.obj i o rb hi hr).mono (DV.le_refl ρ) rfl,h.lt,h.sep,h.glb⟩
theorem Fr.drawn'(d:Nat):Fr ρ s w ρ s { w with drawn:=d }:=
 ⟨DV.le_refl ρ,fun _ h _=>h,A8H _,A8H _,rfl,rfl,rfl,fun _ _ _=>rfl,fun _ h=>.inl h,fun _ _ _=>rfl,fun i rb=>SE i rb,fun _ o _ h _=>⟨o,h⟩⟩
theorem DU.split(h:DU P ρ s w){i:Nat}{r rj:FP}{rb rbj:RB}(hg:s.heap.get i=some (.row r))(hr:ρ i=some rb)(hown:FL r.mode=true)
    (hsole:∀k ok rk,k≠i→s.heap.get k=some ok→ρ k=some rk→rk.b≠rb.b) (hf:ρ s.next=none)
    (hn2:s2.next=s.next) (hk2:∀k,k≠i→s2.heap.get k=s.heap.get k)
    (hi2:s2.heap.get i=none∨∃r',s2.heap.get i=some (.row r')∧FL r'.mode=false∧Dr ρ w1 r' rb)
    (hj:Dr (EX ρ s.next rbj) w1 rj rbj) (hbj:rbj.b=rb.b) (hpar:s2.heap.get i=none∨rj.par=some i)
    (hsz:w1.heap.size=w.heap.size) (hkeep:∀b,b≠rb.b→w1.heap[b]? = w.heap[b]?) (hos:w1.os=w.os) (htape:w1.tape=w.tape) (hout:w1.output=w.output):
    DU P (EX ρ s.next rbj) (newObj s2 (.row rj)) w1∧Fr ρ s w (EX ρ s.next rbj) (newObj s2 (.row rj)) w1:=by
  have hle:=Dc (rb:=rbj) hf
  have hin:i≠s.next:=fun e=>by grind
  have hget:∀k,(newObj s2 (.row rj)).heap.get k=if k=s.next then some (.row rj)else s2.heap.get k:=fun k=>by rw[DC,hn2]
  have hglb:∀k ok g,(newObj s2 (.row rj)).heap.get k=some ok→Hp ok=some g→∃r,EX ρ s.next rbj k=some r:=by
    intro k ok g hk hg'
    rw[hget]at hk
    by_cases e:k=s.next
    · grind [Cf]
    · rw[if_neg e]at hk
      by_cases ei:k=i
      · subst ei;exact⟨_,hle _ _ hr⟩
      · rw[hk2 k ei]at hk
        obtain⟨r1,h1⟩:=h.glb k ok g hk hg'
        exact⟨r1,hle _ _ h1⟩
  refine⟨⟨?_,?_,?_,hglb⟩,?_⟩
  · intro k ok rk hk hrk
    rw[hget]at hk
    by_cases e:k=s.next
    · subst e
      rw[if_pos rfl]at hk
      injection hk with hk
      rw[Cf]at hrk
      injection hrk with hrk
      subst hk;subst hrk
      exact hj
    · rw [if_neg e] at hk
      rw[CZ rbj e]at hrk
      by_cases ei:k=i
      · subst ei
        rw[hr]at hrk
        injection hrk with hrk
        subst hrk
        rcases hi2 with h0 | ⟨r',h1,_,h2⟩
        · grind
        · rw[h1]at hk
          injection hk with hk
          subst hk
          exact Gq.mono (o:=.row r') (w:=w1) (w1:=w1) h2 hle rfl
      · rw[hk2 k ei]at hk
        exact(h.obj k ok rk hk hrk).mono hle (hkeep _ (hsole k ok rk ei hk hrk))
  · intro k rk hrk
    by_cases e:k=s.next
    · subst e
      rw[Cf]at hrk
      injection hrk with hrk
      subst hrk
      rw[hbj,hsz]
      exact h.lt i rb hr
    · rw [CZ           rbj e] at hrk
      rw[hsz]
      exact h.lt k rk hrk
  · intro a c oa oc ra rc hne ha hc hra hrc hbb hwc
    rw[hget]at ha hc
    by_cases ea:a=s.next
    · subst ea
      rw[if_pos rfl]at ha
      rw[Cf]at hra
      injection hra with hra
      subst hra
      have ec:c≠s.next:=fun e=>hne e.symm
      rw[if_neg ec]at hc
      grind [CZ,wr]
    · rw [if_neg ea] at ha
      rw[CZ rbj ea]at hra
      by_cases ec:c=s.next
      · subst ec
        rw[if_pos rfl]at hc
        injection hc with hc
        subst hc
        rw[Cf]at hrc
        injection hrc with hrc
        subst hrc
        by_cases eai:a=i
        · subst eai
          rcases hi2 with h0 | ⟨r',h1,h2,_⟩
          · grind
          · rw[h1]at ha
            injection ha with ha
            subst ha
            rcases hpar with hp | hp
            · grind
            · exact⟨hp,by simpa[wr]using h2⟩
        grind
      · rw [if_neg ec] at hc
        rw[CZ rbj ec]at hrc
        by_cases eci:c=i
        · grind
        · rw[hk2 c eci]at hc
          by_cases eai:a=i
          · grind
          · rw[hk2 a eai]at ha
            exact h.sep a c oa oc ra rc hne ha hc hra hrc hbb hwc
  · refine ⟨hle, ?_, by simp [newObj, hn2], by omega, hos, htape, hout, ?_, ?_, ?_, fun k rk hk h0 => ?_, fun k ok rk hk h0 => ?_⟩
    · grind [newObj,CZ]
    · intro b _ hno
      exact hkeep b (fun e=>hno ⟨i,_,rb,hg,by simpa[wr]using hown,hr,e.symm⟩)
    · rintro b ⟨k, ok, rk, hk, hwk, hrk, rfl⟩
      rw[hget]at hk
      by_cases e:k=s.next
      · subst e
        rw[Cf]at hrk
        injection hrk with hrk
        subst hrk
        exact .inl ⟨i,_,rb,hg,by simpa[wr]using hown,hr,hbj.symm⟩
      · rw [if_neg e] at hk
        rw[CZ rbj e]at hrk
        by_cases ei:k=i
        · subst ei
          exact .inl ⟨k,_,rk,hg,by simpa[wr]using hown,hrk,rfl⟩
        · rw[hk2 k ei]at hk
          exact .inl ⟨k,ok,rk,hk,hwk,hrk,rfl⟩
    · intro k hrk hk
      rw[hget,if_neg (by grind [newObj])]
      grind
    · grind [Cf,CZ]
    grind
theorem Tj(newLen:Nat):∀ (k c:Nat),c<newLen→Builtin.growBy newLen k c≤2 * newLen+192
  | 0,c,h=>by grind [Builtin.growBy]
  | k + 1, c, h => by
    simp only[Builtin.growBy]
    split
    · omega
    · by_cases h2 : c + (c + 768) / 4 < newLen
      · exact Tj newLen k _ h2
      · have:Builtin.growBy newLen k (c+(c+768) / 4)=c+(c+768) / 4:=by
          cases k with
          | zero=>rfl
          | succ k=>simp_all[Builtin.growBy]
        rw[this];omega
theorem aK{need cap:Nat}(h:cap<need):Builtin.nextslicecap need cap≤2 * need+192:=by
 grind [Builtin.nextslicecap,Tj]
theorem pJ(d:TypeDesc)(h:∀k,d≠.int k):(match d with | .int _=>true | _=>false)=false:=by
 simp_all
theorem XR{e:TypeId}{n:Nat}(h:Fe P e=some n):∃i,(∀w,(typeInfo e).run P w=.ok i w)∧i.bytes=n:=by
 unfold Fe at h
 split at h
 ·simp_all[typeInfo]
 ·cases h
structure bT(P:Program)(e xt:TypeId)(size n:Nat)(x':Value)(new:Array Value)(w:World):Prop where
 ok:(∃d,P.underlying xt=some d∧(∀k,d≠.int k)∧(Builtin.lenOf x').run P w=.ok n w∧∀d,(Builtin.firstCells size n x').run P { w with drawn:=d }=.ok new { w with drawn:=d }) ∨
  (∃k kd,P.underlying xt=some (.int k)∧x'=.int kd (n:Int)∧n≤1099511627776∧n≠0∧∃z,(∀w,(zeroValue e).run P w=.ok z w)∧z.cells.size=size∧new=Builtin.zeroCells z.cells n)
theorem GX{st xt ty e:TypeId}{size by_ n sLen sCap:Nat}{base:Option Addr}{x':Value}{new:Array Value}
    (hu:P.underlying st=some (.slice e)) (hs:DZ P e=some size) (hby:Fe P e=some by_) (hsz:size≠0) (hb:(sLen+n) * by_≤1099511627776)
    (hx:bT P e xt size n x' new w) (hle:sLen+n≤sCap)
    (hst:match base with | some a=>(storeCells (a.add (sLen * size)) new.toList).run P w=.ok () w1 | none=>w1=w):
    (Builtin.append_ #[st,xt] ty #[.slice base sLen sCap,x']).run P w=.ok (.slice base (sLen+n) sCap) w1:=by
  rcases hx.ok with⟨d,hd,hnd,hn,hfc⟩ | ⟨k,kd,hk,rfl,hn,hn0,z,hz,hzs,hnew⟩
  · have hm := pJ     d hnd
    have hfc:=hfc w.drawn
    cases base with
    | none =>
      simp only at hst
      subst hst
      simp[Builtin.append_,CW hu,DT hs,CW hd,hn,hle,hfc]
    | some a =>
      simp only at hst
      simp[Builtin.append_,CW hu,DT hs,CW hd,hn,hle,hfc,hst]
  · obtain⟨i,hi,hi2⟩:=XR hby
    have hw:IntKind.i64.wrap (n:Int)=(n:Int):=QB (k:=.i64) (n:=Int.ofNat n) (by grind [D7,Nat.ble_eq])
    have h0:¬ ((n:Int)<0):=by omega
    have hm1:n * by_≤1099511627776:=A8Z (A8t _ (Nat.le_add_left _ _)) hb
    have h1:¬ ((281474976710656:Int)<(n:Int) * (i.bytes:Int)):=by
      grind
    cases base with
    | none =>
      simp only at hst
      subst hst
      simp[Builtin.append_,CW hu,DT hs,CW hk,asInt,asIntOf,hw,hi,h0,h1,hle,hz]
    | some a =>
      simp only at hst
      rw[hnew]at hst
      have hns:n * size≠0:=Nat.mul_ne_zero hn0 hsz
      simp[Builtin.append_,CW hu,DT hs,CW hk,asInt,asIntOf,hw,hi,h0,h1,hle,hns,hz,hst]
theorem run_append_grow{st xt ty e:TypeId}{size by_ n sLen sCap:Nat}{base:Option Addr}{x':Value}{old new:Array Value}{z:Value}
    (hu:P.underlying st=some (.slice e)) (hs:DZ P e=some size) (hby:Fe P e=some by_) (hsz:size≠0)
    (hb:(sLen+n) * by_≤1099511627776) (hb2:sLen+n≤1099511627776)
    (hx:bT P e xt size n x' new w) (hgt:sCap<sLen+n) (hz:∀w,(zeroValue e).run P w=.ok z w)
    (hold:∀d,(Builtin.firstCells size sLen (.slice base sLen sCap)).run P { w with drawn:=d }=.ok old { w with drawn:=d }):
    ∃newCap,sLen+n≤newCap∧(Builtin.append_ #[st,xt] ty #[.slice base sLen sCap,x']).run P w =
      .ok (.slice (some ⟨w.heap.size,0,none⟩) (sLen+n) newCap) (World.alloc { w with drawn:=w.drawn+1 } (.cells (old++new++Builtin.zeroCells z.cells (newCap - (sLen+n))) e)):=by
  obtain⟨i,hi,hi2⟩:=XR hby
  have hcap:=aK hgt
  have hnc:¬ (281474976710656:Nat)<Builtin.nextslicecap (sLen+n) sCap * i.bytes:=by
    rw[hi2]
    have h1:Builtin.nextslicecap (sLen+n) sCap * by_≤(2 * (sLen+n)+192) * by_:=A8t _ hcap
    have h2:by_≤(sLen+n) * by_:=Nat.le_mul_of_pos_left _ (by omega)
    grind
  have hle:¬ sLen+n≤sCap:=by omega
  have hmax:¬ ((9223372036854775807:Int)<((sLen:Int)+(n:Int))):=by omega
  let q:Question:=.appendCap (sLen+n) sCap e
  let newCap:=q.cut (w.tape w.drawn q)
  have hq:sLen+n≤newCap:=by grind [Question.cut]
  refine⟨newCap,hq,?_⟩
  have hf:q.forced=false:=rfl
  have hold:(Builtin.firstCells size sLen (.slice base sLen sCap)).run P w.drew=.ok old w.drew:=hold (w.drawn+1)
  rcases hx.ok with⟨d,hd,hnd,hn,hfc⟩ | ⟨k,kd,hk,rfl,hn,hn0,z',hz',hzs,hnew⟩
  · have hm := pJ     d hnd
    have hfc:(Builtin.firstCells size n x').run P w.drew=.ok new w.drew:=hfc (w.drawn+1)
    simp[Builtin.append_,CW hu,DT hs,CW hd,hle,hn,hi,hmax,hnc,hold,hfc,hz,newRow,IntKind.max,IntKind.signed,IntKind.bits]
    simp[newCap,q,hf]
  · have hw : IntKind.i64.wrap (n : Int) = (n : Int) := QB      (k := .i64) (n := Int.ofNat n) (by grind [D7,      Nat.ble_eq])
    have h0:¬ ((n:Int)<0):=by omega
    have hm1:n * by_≤1099511627776:=A8Z (A8t _ (Nat.le_add_left _ _)) hb
    have h1:¬ ((281474976710656:Int)<(n:Int) * (i.bytes:Int)):=by
      grind
    have hzz:z'=z:=by
      simp_all
    subst hzz
    have hns:n * size≠0:=Nat.mul_ne_zero hn0 hsz
    simp[Builtin.append_,CW hu,DT hs,CW hk,asInt,asIntOf,hw,hi,h0,h1,hle,hns,hz,hmax,hnc,hold,newRow,IntKind.max,IntKind.signed,IntKind.bits]
    grind
theorem Pm(ρ:DV){e:TypeId}{size:Nat}(h:FU P e size=true):∃z z',FV P e=some z∧Cc ρ z z'∧(∀w,(zeroValue e).run P w=.ok z' w)∧z'.cells.size=size∧z.cells.length=size:=by
  unfold FU at h
  split at h
  · rename_i z hz
    have hl:=Cv h
    have key:∃z',(∀w,(zeroValue e).run P w=.ok z' w)∧Cc ρ z z':=by
      unfold FV at hz
      split at hz
      · split at hz
        · simp_all[zeroValue,typeInfo,Ei]
        · cases hz
      · cases hz
    obtain⟨z',h1,h2⟩:=key
    have:=h2.cells.length
    grind
  · cases h
theorem MP{z:AV}{z':Value}{size:Nat}(hz:Cc ρ z z')(hl:z.cells.length=size)(hs:z'.cells.size=size)(n:Nat):
  Cb ρ (iN z.cells n) (Builtin.zeroCells z'.cells n).toList:=by
 grind [V2,Builtin.zeroCells]
theorem YX(h:DU P ρ s w){e xt:TypeId}{size:Nat}{x:AV}{x':Value}{src:Nat×List AV}
    (hg:(match x with | .int ..=>Z0 P xt | _=>EE P xt)=true) (hs:FT P s e size x=some src) (hx:Cc ρ x x'):
    ∃new:Array Value,Cb ρ src.2 new.toList∧bT P e xt size src.1 x' new w∧new.size=src.1 * size:=by
  have hslice:(∃d,P.underlying xt=some d∧∀k,d≠.int k)∨∃k n,x=.int k n:=by
    cases x with
    | int k n=>grind
    | _ =>
      grind [EE]
  unfold FT at hs
  split at hs
  · rename_i kd n
    obtain⟨hb,hs⟩:=CM hs
    simp only[A9W,A8Q,A8Y]at hb
    simp only[A8G]at hs
    obtain⟨z,hz,hs⟩:=hs
    obtain⟨hl,hs⟩:=CM hs
    injection hs with hs
    subst hs
    obtain⟨z0,z',hz0,h1,h2,h3,h4⟩:=Pm ρ (P:=P) (e:=e) (size:=size) (by simp[FU,hz,hl])
    rw[hz]at hz0
    injection hz0 with hz0
    subst hz0
    cases hx
    have hk:∃k,P.underlying xt=some (.int k):=by
      grind [Z0]
    obtain⟨k,hk⟩:=hk
    exact⟨Builtin.zeroCells z'.cells n,MP h1 h4 h3 n,⟨.inr ⟨k,kd,hk,rfl,hb.1,by omega,z',h2,h3,rfl⟩⟩,by grind [Builtin.zeroCells]⟩
  · injection hs with hs
    subst hs
    obtain⟨d,hd,hnd⟩:=hslice.resolve_right (by simp)
    cases hx
    exact⟨#[],.nil,⟨.inl ⟨d,hd,hnd,rfl,fun _=>rfl⟩⟩,by simp⟩
  · rename_i i o n cap
    simp only[A8G]at hs
    obtain⟨l,hl,hs⟩:=hs
    injection hs with hs
    subst hs
    obtain⟨d,hd,hnd⟩:=hslice.resolve_right (by simp)
    unfold Pr at hl
    cases hn0:Nat.beq n 0 with
    | true =>
      rw[hn0]at hl
      injection hl with hl
      subst hl
      have:=Cv hn0
      subst this
      cases hx<;>exact⟨#[],by simpa using Cb.nil,⟨.inl ⟨d,hd,hnd,rfl,fun d=>by simp_all[Builtin.firstCells,loadCells,loadCellsFrom]⟩⟩,by simp⟩
    | false =>
    rw[hn0]at hl
    simp only[cond_false]at hl
    cases hx with
    | slice hr hlc =>
      obtain⟨l',h1,h2,h3⟩:=FR h hr hl
      exact⟨l'.toArray,by simpa using h1,⟨.inl ⟨d,hd,hnd,rfl,fun d=>h3 _ rfl⟩⟩,by simpa using h2⟩
    | sliceOpen hr hsz hlc h1 h2 =>
      obtain⟨l',h1,h2,h3⟩:=FR h hr hl
      exact⟨l'.toArray,by simpa using h1,⟨.inl ⟨d,hd,hnd,rfl,fun d=>h3 _ rfl⟩⟩,by simpa using h2⟩
    | sliceEnd hr hsz h1 h2 =>
      simp_all
  · rename_i l
    obtain⟨hb,hs⟩:=CM hs
    injection hs with hs
    subst hs
    obtain⟨d,hd,hnd⟩:=hslice.resolve_right (by simp)
    cases hx with
    | str hl =>
      rename_i b
      subst hl
      have hsz1:=Cv hb
      have hlen:(List.map (fun(b:UInt8)=>b.toNat) b.data.toList).length=b.size:=by simp
      refine⟨(b.extract 0 b.size).data.map fun b=>.int .u8 b.toNat,?_,⟨.inl ⟨d,hd,hnd,by simp_all[Builtin.lenOf],fun d=>by simp_all[Builtin.firstCells]⟩⟩,by simp[hsz1]⟩
      have he:(b.extract 0 b.size).data.toList=b.data.toList:=by simp
      rw[Array.toList_map,he]
      generalize b.data.toList=l
      induction l with
      | nil=>exact .nil
      | cons x l ih=>exact .cons (.int _ _) ih
  · cases hs
def bM(P:Program)(ρ:DV)(s:CO)(w:World)(sem:Sem Value)(v:AV)(s':CO):Prop:=
 ∃v' w' ρ',sem.run P w=.ok v' w'∧Cc ρ' v v'∧DU P ρ' s' w'∧Fr ρ s w ρ' s' w'
theorem Cb.get'{l:List AV}{cs:Array Value}(h:Cb ρ l cs.toList){k:Nat}{v:AV}(hk:l[k]? = some v):∃v',cs[k]? = some v'∧Cc ρ v v':=by
 obtain⟨v',h1,h2⟩:=h.get hk
 grind
theorem Kq(h:DU P ρ s w)(hf:ρ s.next=none){e:TypeId}{size n newCap:Nat}{cells:List AV}{v:AV}{cs rest:Array Value}(hs:FB P s e size n cells=some (v,s1))
  (hc:Cb ρ cells cs.toList) (hcs:cs.size=n * size) (hsz:0<size) (hcap:n≤newCap) (hrest:rest.size=(newCap - n) * size):
  ∃ρ',Cc ρ' v (.slice (some ⟨w.heap.size,0,none⟩) n newCap)∧DU P ρ' s1 (World.alloc w (.cells (cs++rest) e))∧Fr ρ s w ρ' s1 (World.alloc w (.cells (cs++rest) e)):=by
 unfold FB at hs
 obtain⟨hz,hs⟩:=CM hs
 injection hs with hs
 injection hs with hs1 hs2
 subst hs1;subst hs2
 have hlen:cells.length=n * size:=by have:=hc.length;simp at this;omega
 have htot:newCap * size=n * size+(newCap - n) * size:=by rw[← A8o];congr 1;omega
 have hle:=Dc (rb:=⟨w.heap.size,0,newCap * size,size⟩) hf
 have hblk:(World.alloc w (.cells (cs++rest) e)).heap[w.heap.size]? = some (.cells (cs++rest) e (0,0)):=World.alloc_heap_new w _
 obtain⟨h1,h2⟩:=h.new (o:=GV e size (CT.fill .leaf 0 cells) cells.length none true) (o':=.cells (cs++rest) e) (rb:=⟨w.heap.size,0,newCap * size,size⟩) hf rfl (by
  refine⟨?_,by simp only;omega,rfl,(fun hh=>by cases hh),fun _=>⟨cs++rest,hblk,by grind⟩,fun _=>rfl,(fun g hg=>by cases hg),fun p hp=>by cases hp⟩
  intro k v hk hv
  simp only[CT.get_fill,A8T,A8V,A9S,Nat.sub_zero]at hv
  simp only at hk
  rw[if_pos hk]at hv
  obtain⟨v',g1,g2⟩:=hc.get' hv
  refine⟨v',?_,g2.mono hle⟩
  simp_all[Array.getElem?_append_left])
 refine⟨_,Cc.sliceOpen (Cf _ _) hsz hcap (by simp) ?_,h1,h2⟩
 grind
theorem Ms(h:DU P ρ s w){i:Nat}{r:FP}{rb:RB}(hg:s.heap.get i=some (.row r))(hr:ρ i=some rb)(hown:FL r.mode=true):
    DU P ρ (Dm s i r) w∧Fr ρ s w ρ (Dm s i r) w∧(Dm s i r).next=s.next∧(Dm s i r).heap.get i=some (.row r) ∧
    (∀k ok rk,k≠i→(Dm s i r).heap.get k=some ok→ρ k=some rk→rk.b≠rb.b)∧(∀p,r.par=some p→p≠i→(Dm s i r).heap.get p=none):=by
  have hok:Dr ρ w r rb:=h.obj i _ rb hg hr
  unfold Dm
  split
  · rename_i hp
    refine⟨h,Fr.refl _ _ _,rfl,hg,fun k ok rk hne hk hrk e=>?_,fun p hp'=>by grind⟩
    have:=(h.sep k i ok _ rk rb hne hk hg hrk hr e (by simpa[wr]using hown)).1
    grind [Ih]
  · rename_i p hp
    by_cases hpi:p=i
    · have:Nat.beq p i=true:=by simp_all
      rw[this]
      refine⟨h,Fr.refl _ _ _,rfl,hg,fun k ok rk hne hk hrk e=>?_,fun q hq hqi=>by grind⟩
      have:=(h.sep k i ok _ rk rb hne hk hg hrk hr e (by simpa[wr]using hown)).1
      grind [Ih]
    · rw[CT.beq_no hpi]
      obtain⟨rp,hrp⟩:=hok.par p hp
      obtain⟨hd,hfd⟩:=h.del hrp
      refine⟨hd,hfd,rfl,by show(Eo s p).heap.get i=_;rw[Dq,if_neg (fun e=>hpi e.symm)];exact hg,fun k ok rk hne hk hrk e=>?_,fun q hq _=>by
        rw[hp]at hq
        injection hq with hq
        subst hq
        show(Eo s p).heap.get p=none
        rw[Dq,if_pos rfl]⟩
      have hk':(Eo s p).heap.get k=some ok:=hk
      rw[Dq]at hk'
      by_cases hkp:k=p
      · grind
      · rw[if_neg hkp]at hk'
        have:=(h.sep k i ok _ rk rb hne hk' hg hrk hr e (by simpa[wr]using hown)).1
        grind [Ih]
theorem YP(i:Nat)(r:FP)(ends:Bool)(k:Nat)(hk:k≠i):(Fy s i r ends).heap.get k=(Dm s i r).heap.get k:=by
 unfold Fy
 cases ends with
 | true=>simp_all[EG]
 | false=>simp_all[Dq]
theorem Nq(i:Nat)(r:FP)(ends:Bool)(hn:(Dm s i r).next=s.next):(Fy s i r ends).next=s.next:=by
 unfold Fy
 cases ends with
 | true=>exact hn
 | false=>exact hn
theorem HP{i off n:Nat}{l:List AV}{r:FP}(hrow:rowAt s i=some r)(hl:Di s i off n=some l):off+n≤r.n∧r.c.take off n=some l:=by
 grind [Di,CM,Nat.ble_eq]
theorem Ub{r:FP}{o m:Nat}{old new:List AV}(ht:r.c.take o m=some old)(k:Nat)(hk:k<(old++new).length):
    (bif Nat.beq o 0 then r.c.fill m new else CT.fill .leaf 0 (old++new)).get k=(old++new)[k]? := by
  have hlen:=CT.take_length ht
  by_cases h0:o=0
  · subst h0
    simp only[show Nat.beq 0 0=true from rfl,cond_true,CT.get_fill]
    by_cases h1:k<m
    · rw[if_neg (by omega),A8d (by omega)]
      have:=CT.take_get ht k h1
      simpa using this
    grind
  simp_all[CT.beq_no,CT.get_fill]
theorem Wh(h:DU P ρ s w)(hf:ρ s.next=none){e:TypeId}{size i o len cap:Nat}{src:Nat×List AV}{r:FP}{rb:RB}{old:List AV}{v:AV}{new:Array Value}
    (hs:Hi P s e size i o len src r old=some (v,s1)) (hrow:rowAt s i=some r) (hr:ρ i=some rb) (hl:Di s i o (len * size)=some old)
    (hnew:Cb ρ src.2 new.toList) (hns:new.size=src.1 * size) (hall:C3 src.2=true) (hsz:0<size) (hle:len+src.1≤cap) (h1:o+cap * size≤rb.N) (h2:rb.N<o+(cap+1) * size)
    (hgt:r.n<o+(len+src.1) * size):
    ∃w1 ρ',(storeCells ⟨rb.b,rb.off+o+len * size,none⟩ new.toList).run P w=.ok () w1∧Cc ρ' v (.slice (some ⟨rb.b,rb.off+o,none⟩) (len+src.1) cap)∧DU P ρ' s1 w1∧Fr ρ s w ρ' s1 w1:=by
  unfold Hi at hs
  obtain⟨hg,hs⟩:=CM hs
  simp only[A9W]at hg
  obtain⟨⟨hown,hee⟩,_⟩:=hg
  have hee:=A8R hee
  injection hs with hs
  injection hs with hs1 hs2
  have hget:=DW hrow
  have hok:Dr ρ w r rb:=h.obj i _ rb hget hr
  obtain⟨hle1,htake⟩:=HP hrow hl
  have hmode:r.mode≠.ro:=fun e=>by rw[e]at hown;cases hown
  obtain⟨cs,hblk,hszb⟩:=hok.own hmode
  obtain⟨ety,hety⟩:∃x,r.elem=x:=⟨_,rfl⟩
  rw[hety]at hblk
  have hee2:ety=e:=hety.symm.trans hee
  have hoN:o≤rb.N:=by omega
  have hneed:(len+src.1) * size≤cap * size:=A8t _ hle
  have hsum:(len+src.1) * size=len * size+src.1 * size:=A8o _ _ _
  have hfit:rb.off+o+len * size+new.toList.length≤cs.size:=by grind
  have hone:∀x∈new.toList,x.oneCell'=true:=hnew.oneCell hall
  have hrun:=run_storeCells_at P rb.b (rb.off+o+len * size) ety new.toList 0 cs w hblk (by simpa using hfit) hone
  simp only[A8f]at hrun
  generalize hcs1:(cs.toList.take (rb.off+o+len * size)++new.toList++cs.toList.drop (rb.off+o+len * size+new.toList.length)).toArray=cs1 at hrun
  have hblk1:(w.setRow rb.b cs1).heap[rb.b]? = some (.cells cs1 ety (0,0)):=setRow_heap w rb.b cs cs1 ety (0,0) hblk
  have hsize1:cs1.size=cs.size:=by grind
  have hgetc:∀k,cs1[k]? = if rb.off+o+len * size≤k∧k<rb.off+o+len * size+new.size then new[k - (rb.off+o+len * size)]? else cs[k]? := by
    intro k
    rw[← hcs1,List.getElem?_toArray]
    simp only[Array.length_toList]at hfit ⊢
    by_cases g1:k<rb.off+o+len * size
    · grind
    · rw[A8n,A8g (by simp;omega)]
      have hmin:(cs.toList.take (rb.off+o+len * size)).length=rb.off+o+len * size:=by simp;omega
      rw[hmin]
      by_cases g2:k<rb.off+o+len * size+new.size
      · grind
      · rw[if_neg (by omega),A8g (by simp;omega),A8y,← Array.getElem?_toList]
        congr 1
        simp
        omega
  obtain⟨hu,hfu,hnu,hgu,hsole,_⟩:=Ms h hget hr hown
  have hlenold:=CT.take_length htake
  have hlensrc:src.2.length=src.1 * size:=by have:=hnew.length;simp at this;omega
  have hlenall:(old++src.2).length=(len+src.1) * size:=by simp;omega
  let rbj:RB:=⟨rb.b,rb.off+o,rb.N - o,size⟩
  have hle':ρ.le (EX ρ (Dm s i r).next rbj):=by grind [Dc]
  have hcell:∀k,(w.setRow rb.b cs1).cell? ⟨rb.b,k,none⟩=cs1[k]? := fun k=>by grind [World.cell?]
  have hcell0:∀k,w.cell? ⟨rb.b,k,none⟩=cs[k]? := fun k=>by grind [World.cell?]
  have hsplit:=DU.split (s2:=Fy s i r (Nat.beq (o+len * size) r.n)) (w1:=w.setRow rb.b cs1) (rbj:=rbj) (i:=i)
    (rj:={ elem:=e,sz:=size,n:=(old++src.2).length,c:=bif Nat.beq o 0 then r.c.fill (len * size) src.2 else CT.fill .leaf 0 (old++src.2),spare:=true,mode:=.own,par:=bif Nat.beq (o+len * size) r.n then some i else none,bytes:=r.bytes && Nat.beq o 0 })
    hu hgu hr hown hsole (by rw[hnu];exact hf) ((Nq i r _ hnu).trans hnu.symm) (fun k hk=>YP i r _ k hk)
    (by
      cases hends:Nat.beq (o+len * size) r.n with
      | false=>exact .inl (by show(Eo _ i).heap.get i=none;rw[Dq,if_pos rfl])
      | true =>
        have hends:=Cv hends
        refine .inr ⟨{ r with mode:=.sealed,par:=none },by show(setObj _ i _).heap.get i=_;rw[EG,if_pos rfl],rfl,?_⟩
        refine⟨?_,hok.le,hok.sz,hok.tight,fun _=>⟨cs1,by grind,by grind⟩,hok.base,fun g hg=>(let ⟨a1,a2,cs0,e0,pl,a3,a4⟩:=hok.gl g hg;⟨a1,a2,cs1,ety,(0,0),hblk1,by grind⟩),fun p hp=>by cases hp⟩
        intro k v hk hv
        obtain⟨v',g1,g2⟩:=hok.cells k v hk hv
        grind)
    (by
      refine⟨?_,by grind,rfl,(fun hh=>by cases hh),fun _=>⟨cs1,by grind,by grind⟩,(fun hb=>by simp only[A9W]at hb;have h1:=hok.base hb.1;grind [Nat.eq_of_beq_eq_true]),(fun g hg=>by cases hg),?_⟩
      · intro k v hk hv
        simp only at hk hv
        rw[Ub htake k hk]at hv
        show ∃v',(w.setRow rb.b cs1).cell? ⟨rb.b,rb.off+o+k,none⟩=some v'∧Cc _ v v'
        rw[hcell,hgetc]
        by_cases hk1:k<len * size
        · rw [if_neg (by omega)]
          rw[A8d (by omega),← CT.take_get htake k hk1]at hv
          obtain⟨v',g1,g2⟩:=hok.cells (o+k) v (by omega) hv
          refine⟨v',?_,g2.mono hle'⟩
          grind
        · rw [hlenall] at hk
          rw[if_pos (by omega),show rb.off+o+k - (rb.off+o+len * size)=k - len * size from by omega]
          rw[A8g (by omega),hlenold]at hv
          obtain⟨v',g1,g2⟩:=hnew.get' hv
          exact⟨v',g1,g2.mono hle'⟩
      · intro p hp
        simp only at hp
        cases hends:Nat.beq (o+len * size) r.n with
        | false=>grind
        | true =>
          rw[hends]at hp
          simp only[cond_true]at hp
          injection hp with hp
          subst hp
          exact⟨rb,hle' _ _ hr⟩)
    rfl
    (by
      cases hends:Nat.beq (o+len * size) r.n with
      | false=>exact .inl (by show(Eo _ i).heap.get i=none;rw[Dq,if_pos rfl])
      | true=>exact .inr rfl)
    (by simp) (fun b hb=>setRow_other w rb.b b cs1 hb) rfl rfl rfl
  rw[hnu]at hsplit
  refine⟨w.setRow rb.b cs1,EX ρ s.next rbj,hrun,?_,?_,?_⟩
  · rw[← hs1]
    have hj:EX ρ s.next rbj s.next=some rbj:=Cf _ _
    have hm1:cap * size≤rb.N - o:=by omega
    have hm2:rb.N - o<(cap+1) * size:=by omega
    exact Cc.sliceOpen (rb:=rbj) (o:=0) hj hsz hle (by simpa using hm1) (by simpa using hm2)
  · rw[← hs2];exact hsplit.1
  · rw[← hs2];exact hfu.trans hsplit.2
theorem Us(h:DU P ρ s w)(hf:ρ s.next=none){e:TypeId}{size i o len newCap:Nat}{src:Nat×List AV}{r:FP}{rb:RB}{old:List AV}{v:AV}{cs rest:Array Value}
    (hs:Hi P s e size i o len src r old=some (v,s1)) (hrow:rowAt s i=some r) (hr:ρ i=some rb) (hl:Di s i o (len * size)=some old)
    (hc:Cb ρ (old++src.2) cs.toList) (hcs:cs.size=(len+src.1) * size) (hsz:0<size) (hcap:len+src.1≤newCap) (hrest:rest.size=(newCap - (len+src.1)) * size):
    ∃ρ',Cc ρ' v (.slice (some ⟨w.heap.size,0,none⟩) (len+src.1) newCap)∧DU P ρ' s1 (World.alloc w (.cells (cs++rest) e))∧Fr ρ s w ρ' s1 (World.alloc w (.cells (cs++rest) e)):=by
  unfold Hi at hs
  obtain⟨hg,hs⟩:=CM hs
  simp only[A9W]at hg
  obtain⟨⟨hown,hee⟩,_⟩:=hg
  have hee:=A8R hee
  injection hs with hs
  injection hs with hs1 hs2
  have hget:=DW hrow
  have hok:Dr ρ w r rb:=h.obj i _ rb hget hr
  obtain⟨hle1,htake⟩:=HP hrow hl
  obtain⟨hu,hfu,hnu,hgu,hsole,hpar⟩:=Ms h hget hr hown
  have hlen:(old++src.2).length=(len+src.1) * size:=by have:=hc.length;grind
  have htot:newCap * size=(len+src.1) * size+(newCap - (len+src.1)) * size:=by rw[← A8o];congr 1;omega
  have hsealed:DU P ρ (Fy s i r (Nat.beq (o+len * size) r.n)) w∧Fr ρ (Dm s i r) w ρ (Fy s i r (Nat.beq (o+len * size) r.n)) w:=by
    cases hends:Nat.beq (o+len * size) r.n with
    | false=>exact hu.del hr
    | true =>
      refine hu.set (o1:=.row { r with mode:=.sealed,par:=none }) (w1:=w) hgu hr (by simpa[wr]using hown) hpar rfl rfl (fun _ _=>rfl) rfl rfl rfl ?_
      exact⟨hok.cells,hok.le,hok.sz,hok.tight,fun _=>hok.own (fun e=>by rw[e]at hown;cases hown),hok.base,hok.gl,fun p hp=>by cases hp⟩
  have hns:(Fy s i r (Nat.beq (o+len * size) r.n)).next=s.next:=Nq i r _ hnu
  have hf2:ρ (Fy s i r (Nat.beq (o+len * size) r.n)).next=none:=by rw[hns];exact hf
  generalize hs2':Fy s i r (Nat.beq (o+len * size) r.n)=s2 at *
  have hle:=Dc (rb:=⟨w.heap.size,0,newCap * size,size⟩) hf2
  have hblk:(World.alloc w (.cells (cs++rest) e)).heap[w.heap.size]? = some (.cells (cs++rest) e (0,0)):=World.alloc_heap_new w _
  obtain⟨h1,h2⟩:=hsealed.1.new (o:=GV e size (bif Nat.beq o 0 then r.c.fill (len * size) src.2 else CT.fill .leaf 0 (old++src.2)) (old++src.2).length (bif Nat.beq (o+len * size) r.n then some i else none) (r.bytes && Nat.beq o 0))
    (o':=.cells (cs++rest) e) (rb:=⟨w.heap.size,0,newCap * size,size⟩) hf2 rfl (by
    refine⟨?_,by simp only;omega,rfl,(fun hh=>by cases hh),fun _=>⟨cs++rest,hblk,by grind⟩,fun _=>rfl,(fun g hg=>by cases hg),?_⟩
    · intro k v hk hv
      simp only at hk hv
      rw[Ub htake k hk]at hv
      obtain⟨v',g1,g2⟩:=hc.get' hv
      refine⟨v',?_,g2.mono hle⟩
      simp_all[Array.getElem?_append_left]
    · intro p hp
      simp only at hp
      cases hends:Nat.beq (o+len * size) r.n with
      | false=>grind
      | true =>
        rw[hends]at hp
        simp only[cond_true]at hp
        injection hp with hp
        subst hp
        exact⟨rb,hle _ _ hr⟩)
  refine⟨_,?_,by rw[← hs2];exact h1,by rw[← hs2];exact(hfu.trans hsealed.2).trans h2⟩
  rw[← hs1,← hns]
  refine Cc.sliceOpen (Cf _ _) hsz hcap (by simp) ?_
  grind
end
section
variable{P:Program}{ρ ρ1 ρ2:DV}{s s1 s2:CO}{w w1 w2:World}
theorem GD{i o len:Nat}{cap:Option Nat}{v':Value}(h:Cc ρ (.slice (some (i,o)) len cap) v'):
  ∃rb a c,ρ i=some rb∧v'=.slice (some a) len c∧len≤c∧(∀k,cap=some k→c=k∧a=⟨rb.b,rb.off+o,none⟩) ∧
   (cap=none→0<rb.sz∧((a=⟨rb.b,rb.off+o,none⟩∧o+c * rb.sz≤rb.N∧rb.N<o+(c+1) * rb.sz)∨(len=0∧c=0∧o≤rb.N∧rb.N<o+rb.sz))):=by
 cases h with
 | slice hr hl=>grind
 | sliceOpen hr hs hl h1 h2=>grind
 | sliceEnd hr hs h1 h2=>exact⟨_,_,_,hr,rfl,A8H _,(fun k hk=>by cases hk),fun _=>⟨hs,.inr ⟨rfl,rfl,h1,h2⟩⟩⟩
theorem Id(a:Addr)(w:World):(loadCells a 0).run P w=.ok #[] w:=rfl
theorem P3(h:DU P ρ s w){st xt ty e:TypeId}{size by_ n sLen sCap:Nat}{base:Option Addr}{x':Value}{old:List Value}{oldA:List AV}{new:Array Value}
  (hu:P.underlying st=some (.slice e)) (hs:DZ P e=some size) (hby:Fe P e=some by_) (hsz:size≠0)
  (hb:(sLen+n) * by_≤1099511627776) (hb2:sLen+n≤1099511627776)
  (hx:bT P e xt size n x' new w) (hgt:sCap<sLen+n) (hz:FU P e size=true)
  (hold:∀w1:World,w1.heap=w.heap→(Builtin.firstCells size sLen (.slice base sLen sCap)).run P w1=.ok old.toArray w1):
  ∃newCap rest,sLen+n≤newCap∧Array.size rest=(newCap - (sLen+n)) * size∧(Builtin.append_ #[st,xt] ty #[.slice base sLen sCap,x']).run P w =
   .ok (.slice (some ⟨w.heap.size,0,none⟩) (sLen+n) newCap) (World.alloc { w with drawn:=w.drawn+1 } (.cells ((old.toArray++new)++rest) e)):=by
 obtain⟨z,z',_,_,h2,h3,_⟩:=Pm ρ hz
 obtain⟨newCap,g1,g2⟩:=run_append_grow (ty:=ty) hu hs hby hsz hb hb2 hx hgt h2 (old:=old.toArray) (fun d=>hold _ rfl)
 grind [Builtin.zeroCells]
theorem Yx(h:DU P ρ s w)(hf:ρ s.next=none){st xt ty:TypeId}{a x v:AV}{a' x':Value}(hs:DE P s [st,xt] [a,x]=some (v,s1))(ha:Cc ρ a a')(hx:Cc ρ x x'):
    bM P ρ s w (Builtin.append_ #[st,xt] ty #[a',x']) v s1:=by
  unfold DE at hs
  split at hs<;>first | (cases hs;done) | skip
  rename_i A0p xt0 a0 len cap x0 hty hargs
  injection hty with e1 e2
  injection e2 with e2 _
  injection hargs with e3 e4
  injection e4 with e4 _
  subst e1;subst e2;subst e3;subst e4
  split at hs<;>first | (cases hs;done) | skip
  rename_i e hu
  simp only[A8G]at hs
  obtain⟨size,hsize,by_,hby,hs⟩:=hs
  obtain⟨hg,hsA⟩:=CM hs
  clear hs
  simp only[A9W]at hg
  obtain⟨hg0,hg1⟩:=hg
  have hsz:size≠0:=by intro e0;simp_all
  simp only[A8G]at hsA
  obtain⟨src,hsrc,hsB⟩:=hsA
  obtain⟨hg2,hs⟩:=CM hsB
  clear hsB
  simp only[A9W,A8Q]at hg2
  obtain⟨⟨hall,hb⟩,hb2⟩:=hg2
  obtain⟨new,hnew,hsok,hns⟩:=YX h hg1 hsrc hx
  have hone:=hnew.oneCell hall
  have hsrclen:src.2.length=src.1 * size:=by have:=hnew.length;grind
  unfold appTo at hs
  split at hs
  ·
    cases ha
    cases hk:Nat.beq src.1 0 with
    | true =>
      rw[hk]at hs
      simp only[cond_true]at hs
      injection hs with hs
      injection hs with hs1 hs2
      subst hs1;subst hs2
      have hk:=Cv hk
      have:=GX (w:=w) (w1:=w) (ty:=ty) (base:=none) (sLen:=0) (sCap:=0) hu hsize hby hsz (by simpa using hb) hsok (by grind) rfl
      rw[hk]at this
      exact⟨.slice none 0 0,w,ρ,this,.sliceNil,h,Fr.refl _ _ _⟩
    | false =>
      rw[hk]at hs
      simp only[cond_false]at hs
      have hk:src.1≠0:=fun e0=>by simp_all
      have hz:FU P e size=true:=by grind [FB,CM]
      obtain⟨newCap,rest,g1,g2,g3⟩:=P3 (ty:=ty) (oldA:=[]) (base:=none) (sLen:=0) (sCap:=0) h hu hsize hby hsz hb hb2 hsok (by omega) hz (old:=[]) (fun w1 _=>rfl)
      simp only[A8V]at g1 g2 g3
      obtain⟨ρ',f1,f2,f3⟩:=Kq (h.drawn (w.drawn+1)) hf hs (newCap:=newCap) (cs:=[].toArray++new) (rest:=rest) (by simpa using hnew) (by simpa using hns) (by omega) g1 g2
      exact⟨_,_,ρ',g3,f1,f2,(Fr.drawn' (w.drawn+1)).trans f3⟩
  · rename_i i o
    obtain⟨rb,ad,c,hr,hv,hlc,hexact,hopen⟩:=GD ha
    subst hv
    split at hs
    ·
      rename_i c0
      obtain⟨rfl,rfl⟩:=hexact c0 rfl
      unfold JS at hs
      cases hfit:Nat.ble (len+src.1) c with
      | true =>
        rw[hfit]at hs
        simp only[cond_true,A8G]at hs
        obtain⟨s',hst,hs⟩:=hs
        injection hs with hs
        injection hs with hs1 hs2
        subst hs1;subst hs2
        have hfit:len+src.1≤c:=by simp_all
        obtain⟨w1,k1,k2,k3⟩:=IP h hr hst hnew
        have:=GX (w:=w) (w1:=w1) (ty:=ty) (base:=some ⟨rb.b,rb.off+o,none⟩) (sLen:=len) (sCap:=c) hu hsize hby hsz hb hsok hfit (by grind [FA])
        exact⟨_,w1,ρ,this,.slice (k3.le _ _ hr) hfit,k2,k3⟩
      | false =>
        rw[hfit]at hs
        simp only[cond_false,A8G]at hs
        obtain⟨old,hold,hs⟩:=hs
        have hfit:c<len+src.1:=by
          grind [Nat.ble_eq_true_of_le]
        obtain⟨old',o1,o2,o3⟩:=FR h hr hold
        have hz:FU P e size=true:=by grind [FB,CM]
        obtain⟨newCap,rest,g1,g2,g3⟩:=P3 (ty:=ty) (oldA:=old) h hu hsize hby hsz hb hb2 hsok hfit hz (old:=old') (base:=some ⟨rb.b,rb.off+o,none⟩) (fun w1 hw1=>o3 w1 hw1)
        obtain⟨ρ',f1,f2,f3⟩:=Kq (h.drawn (w.drawn+1)) hf hs (cs:=old'.toArray++new) (rest:=rest) (by rw[Array.toList_append];exact o1.append hnew) (by grind) (by omega) g1 g2
        exact⟨_,_,ρ',g3,f1,f2,(Fr.drawn' (w.drawn+1)).trans f3⟩
    ·
      obtain⟨hsz0,hcases⟩:=hopen rfl
      simp only[A8G]at hs
      obtain⟨r,hrow,hs⟩:=hs
      have hok:Dr ρ w r rb:=h.obj i _ rb (DW hrow) hr
      unfold M1 at hs
      obtain⟨hgs,hsC⟩:=CM hs
      clear hs
      have hs:=hsC
      clear hsC
      have hgs:=Cv hgs
      have hrs:rb.sz=size:=by rw[← hok.sz];exact hgs.symm
      rw[hrs]at hcases hsz0
      cases hfit:Nat.ble (o+(len+src.1) * size) r.n with
      | true =>
        rw[hfit]at hs
        simp only[cond_true,A8G]at hs
        obtain⟨s',hst,hs⟩:=hs
        injection hs with hs
        injection hs with hs1 hs2
        subst hs1;subst hs2
        have hfit:o+(len+src.1) * size≤r.n:=by simp_all
        have hfit2:o+(len+src.1) * size≤rb.N:=A8Z hfit hok.le
        obtain⟨w1,k1,k2,k3⟩:=IP h hr hst hnew
        rcases hcases with⟨rfl,c1,c2⟩ | ⟨rfl,rfl,c1,c2⟩
        · have hle:len+src.1≤c:=by
            rcases A8N c (len+src.1)with h' | h'
            · have:(c+1) * size≤(len+src.1) * size:=A8t _ h'
              omega
            · exact h'
          have:=GX (w:=w) (w1:=w1) (ty:=ty) (base:=some ⟨rb.b,rb.off+o,none⟩) (sLen:=len) (sCap:=c) hu hsize hby hsz hb hsok hle (by grind [FA])
          exact⟨_,w1,ρ,this,.sliceOpen (k3.le _ _ hr) (by rw[hrs];exact hsz0) hle (by rw[hrs];exact c1) (by rw[hrs];exact c2),k2,k3⟩
        · have hk0:src.1=0:=by
            rcases A9D src.1 with h' | h'
            · exact h'
            · have:1 * size≤(0+src.1) * size:=A8t _ (by omega)
              omega
          have hnew0:new.toList=[]:=by
            simp_all
          have hs20:src.2=[]:=by
            simp_all
          have hst0:s'=s:=by grind [EC]
          subst hst0
          have:=GX (w:=w) (w1:=w) (ty:=ty) (base:=some ad) (sLen:=0) (sCap:=0) hu hsize hby hsz hb hsok (by omega) (by simp only[hnew0];rfl)
          rw[hk0]at this ⊢
          exact⟨_,w,ρ,this,.sliceEnd hr (by rw[hrs];exact hsz0) c1 (by rw[hrs];exact c2),h,Fr.refl _ _ _⟩
      | false =>
        rw[hfit]at hs
        simp only[cond_false,A8G]at hs
        obtain⟨old,hold,hs⟩:=hs
        have hgt:r.n<o+(len+src.1) * size:=by
          grind [Nat.ble_eq_true_of_le]
        obtain⟨old',o1,o2,o3⟩:=FR h hr hold
        obtain⟨hle1,htake⟩:=HP hrow hold
        have hold':∀w1:World,w1.heap=w.heap→(Builtin.firstCells size len (.slice (some ad) len c)).run P w1=.ok old'.toArray w1:=by
          intro w1 hw1
          rcases hcases with⟨rfl,_,_⟩ | ⟨rfl,rfl,_,_⟩
          · exact o3 w1 hw1
          grind [Builtin.firstCells,Id]
        have hcsrel:Cb ρ (old++src.2) (old'.toArray++new).toList:=by rw[Array.toList_append];exact o1.append hnew
        have hcssz:(old'.toArray++new).size=(len+src.1) * size:=by grind
        cases hsp:r.spare with
        | true =>
          rw[hsp]at hs
          simp only[cond_true]at hs
          have hz:FU P e size=true:=by
            unfold Hi at hs
            have:=(CM hs).1
            grind
          rcases A8N c (len+src.1)with hlt | hge
          · obtain ⟨newCap, rest, g1, g2, g3⟩ := P3      (ty := ty) (oldA := old) h hu hsize hby hsz hb hb2 hsok hlt hz hold'
            obtain⟨ρ',f1,f2,f3⟩:=Us (h.drawn (w.drawn+1)) hf hs hrow hr hold hcsrel hcssz (by omega) g1 g2
            exact⟨_,_,ρ',g3,f1,f2,(Fr.drawn' (w.drawn+1)).trans f3⟩
          · rcases hcases with ⟨rfl, c1, c2⟩ | ⟨rfl, rfl, c1, c2⟩
            · obtain⟨w1,ρ',k1,k2,k3,k4⟩:=Wh h hf hs hrow hr hold hnew hns hall (by omega) hge c1 c2 hgt
              have:=GX (w:=w) (w1:=w1) (ty:=ty) (base:=some ⟨rb.b,rb.off+o,none⟩) (sLen:=len) (sCap:=c) hu hsize hby hsz hb hsok hge (by grind [FA])
              exact⟨_,w1,ρ',this,k2,k3,k4⟩
            grind
        | false =>
          rw[hsp]at hs
          simp only[cond_false]at hs
          have htight:=hok.tight hsp
          have hlt:c<len+src.1:=by
            rcases A8N c (len+src.1)with h' | h'
            · exact h'
            · rcases hcases with ⟨rfl, c1, c2⟩ | ⟨rfl, rfl, c1, c2⟩
              · have:(len+src.1) * size≤c * size:=A8t _ h'
                omega
              grind
          have hz:FU P e size=true:=by grind [FB,CM]
          obtain⟨newCap,rest,g1,g2,g3⟩:=P3 (ty:=ty) (oldA:=old) h hu hsize hby hsz hb hb2 hsok hlt hz hold'
          obtain⟨ρ',f1,f2,f3⟩:=Kq (h.drawn (w.drawn+1)) hf hs hcsrel hcssz (by omega) g1 g2
          exact⟨_,_,ρ',g3,f1,f2,(Fr.drawn' (w.drawn+1)).trans f3⟩
end
section
variable{P:Program}{ρ ρ1 ρ2:DV}{s s1 s2:CO}{w w1 w2:World}
theorem pN{r:FP}(h:FL r.mode=true):r.mode≠.ro:=fun e=>by rw[e]at h;cases h
theorem Mq{t:TypeId}{n:Nat}(h:DZ P t=some n):P.cellsOf t=n:=by
 unfold DZ at h
 split at h
 ·injection h with h;subst h;simp[Program.cellsOf, *]
 ·cases h
theorem UM(h:DU P ρ s w){i:Nat}{r:FP}{rb:RB}(hrow:rowAt s i=some r)(ho:FL r.mode=true)(hbs:r.bytes=true)(hr:ρ i=some rb):
  ∃cs,w.heap[rb.b]? = some (.cells cs r.elem (0,0))∧rb.off=0∧r.n≤cs.size:=by
 have hok:Dr ρ w r rb:=h.obj i _ rb (DW hrow) hr
 obtain⟨cs,h1,h2⟩:=hok.own (pN ho)
 have:=hok.le
 exact⟨cs,h1,hok.base hbs,by omega⟩
theorem aV{e:TypeId}{c count n:Nat}(fits:TypeId→Bool)(hf:fits e=true)(hc:P.cellsOf e=c)(h0:c≠0)(hn:n≤count)(d:Nat):Go.rowAt P fits (d+1) e count 0 n=true:=by
 unfold Go.rowAt
 simp[hc,h0,hf,hn]
theorem Xg{e:TypeId}{c count n:Nat}(hc:P.cellsOf e=c)(h0:c≠0)(hn:n≤count):liesAt P P.depth e count 0 e n=true:=by
 obtain⟨d,hd⟩:∃d,P.depth=d+1:=⟨_,rfl⟩
 have hs:sameLayout P P.depth e e=true:=by rw[hd];simp[sameLayout]
 have h1:Go.rowAt P (fun t=>sameLayout P P.depth t e) P.depth e count 0 n=true:=by
  have:=aV (P:=P) (fun t=>sameLayout P P.depth t e) hs hc h0 hn d
  rw[← hd]at this
  exact this
 have h2:∀d',liesAt P (d'+1) e count 0 e n=true:=fun d'=>by
  unfold liesAt
  rw[h1,Bool.true_or]
 rw[hd]
 exact h2 d
theorem Sa(h:DU P ρ s w){u:TypeId}{x v:AV}{x':Value}(hs:EP.seenPtr P s u x=some v)(hx:Cc ρ x x'):
    v=x∧(∀src dst,P.underlying src=some (.pointer u)→P.underlying dst=some .unsafePointer→(Conv.unsafePointer src dst x').run P w=.ok x' w) ∧
      (∀src dst,P.underlying src=some .unsafePointer→P.underlying dst=some (.pointer u)→(Conv.unsafePointer src dst x').run P w=.ok x' w):=by
  unfold EP.seenPtr at hs
  split at hs<;>first | (cases hs;done) | skip
  · injection hs with hs;subst hs
    cases hx
    exact⟨rfl,fun src dst h1 h2=>by simp[Conv.unsafePointer,CW h1,CW h2],fun src dst h1 h2=>by simp[Conv.unsafePointer,CW h1,CW h2]⟩
  · rename_i i o
    simp only[A8G]at hs
    obtain⟨r,hrow,n,hn,hs⟩:=hs
    obtain⟨hb,hs⟩:=CM hs
    injection hs with hs;subst hs
    simp only[A9W,A8Q,A9Y]at hb
    obtain⟨⟨⟨⟨⟨ho,hby⟩,ho0⟩,hu⟩,hle⟩,hn0⟩:=hb
    have ho0:=A8R ho0
    have hu:=A8R hu
    have hn0:n≠0:=fun e=>by rw[e]at hn0;cases hn0
    subst ho0
    cases hx with
    | ptr hr =>
    rename_i rb
    obtain⟨cs,h1,h2,h3⟩:=UM h hrow ho hby hr
    have hsh:w.shape? rb.b=some (u,cs.size):=by simp[World.shape?,h1,hu]
    rw[h2]
    have hseen:(Conv.seenAt ⟨rb.b,0+0,none⟩).run P w=.ok ⟨rb.b,0,none⟩ w:=by simp[Conv.seenAt,viewAt,shape,Sem.run,hsh]
    refine⟨rfl,fun src dst k1 k2=>?_,fun src dst k1 k2=>?_⟩
    · simp only[Conv.unsafePointer,Sem.run_bind,CW k1,CW k2,Result.andThen_ok,hseen]
      have hci:(cellsIn rb.b).run P w=.ok (some cs.size) w:=by simp[cellsIn,shape,Sem.run,hsh]
      have hlt:¬ cs.size≤0:=by omega
      simp[hci,DT hn,hn0]
      intro hc;rw[hc]at hlt;exact absurd (A8H 0) hlt
    · have hl:(variablesAt ⟨rb.b,0,none⟩ u 1).run P w=.ok true w:=by
        have:1≤cs.size / P.cellsOf u:=by
          rw[Mq hn]
          exact(Nat.one_le_div_iff (by omega)).2 (by omega)
        have:=Xg (P:=P) (Mq hn) hn0 this
        simp[variablesAt,program,shape,Sem.run,hsh,this]
      simp only[Conv.unsafePointer,Sem.run_bind,CW k1,CW k2,Result.andThen_ok,hseen]
      simp[DT hn,hn0,hl]
end
section
variable{P:Program}{ρ ρ1 ρ2:DV}{s s1 s2:CO}{w w1 w2:World}
theorem Sr{t:TypeId}{x v:AV}{x':Value}{f:Nat}(h:CL P t x f=some v)(hx:Cc ρ x x'):
  ∃v',(Instr.fieldAt t x' f).run P w=.ok v' w∧Cc ρ v v':=by
 unfold CL at h
 split at h<;>first | (cases h;done) | skip
 rename_i i o
 split at h<;>first | (cases h;done) | skip
 rename_i fs hfs
 simp only[A8G]at h
 obtain⟨fd,hfd,n,hn,h⟩:=h
 obtain⟨hz,h⟩:=CM h
 injection h with h;subst h
 have hn0:n≠0:=by intro e;subst e;cases hz
 cases hx with
 | ptr hr =>
  rename_i rb
  refine⟨.pointer (some ⟨rb.b,rb.off+(o+fd.offset),none⟩),?_,.ptr hr⟩
  simp_all[Instr.fieldAt,CW,Instr.sureAddr,fieldPlace,DT,FA,A8u]
theorem St{t:TypeId}{x ix v:AV}{x' ix':Value}(h:CQ P t x ix=some v)(hx:Cc ρ x x')(hi:Cc ρ ix ix'):
  ∃v',(Instr.indexAt t x' ix').run P w=.ok v' w∧Cc ρ v v':=by
 unfold CQ at h
 simp only[A8G]at h
 obtain⟨k,hk,h⟩:=h
 obtain⟨kd,rfl⟩:=RV hk hi
 split at h<;>first | (cases h;done) | skip
 ·split at h<;>first | (cases h;done) | skip
  rename_i i o _ len e he
  simp only[A8G]at h
  obtain⟨n,hn,h⟩:=h
  obtain⟨hlt,h⟩:=CM h
  injection h with h;subst h
  have hlt':k<len:=by simp_all
  cases hx with
  | ptr hr =>
   rename_i rb
   have:(0:Int)≤(k:Int)∧(k:Int)<(len:Int):=by omega
   refine⟨.pointer (some ⟨rb.b,rb.off+(o+k * n),none⟩),?_,.ptr hr⟩
   simp_all[Instr.indexAt,asIntOf,CW,Instr.sureAddr,DT,FA,A8u]
 ·split at h<;>first | (cases h;done) | skip
  rename_i g o _ len e he
  simp only[A8G]at h
  obtain⟨n,hn,h⟩:=h
  obtain⟨hlt,h⟩:=CM h
  injection h with h;subst h
  have hlt':k<len:=by simp_all
  cases hx
  have:(0:Int)≤(k:Int)∧(k:Int)<(len:Int):=by omega
  refine⟨.pointer (some ⟨g,o+k * n,none⟩),?_,.gptr _ _⟩
  simp_all[Instr.indexAt,asIntOf,CW,Instr.sureAddr,DT,FA]
 ·split at h<;>first | (cases h;done) | skip
  rename_i i o len cap _ e he
  simp only[A8G]at h
  obtain⟨n,hn,h⟩:=h
  obtain⟨hlt,h⟩:=CM h
  injection h with h;subst h
  have hlt':k<len:=by simp_all
  have:(0:Int)≤(k:Int)∧(k:Int)<(len:Int):=by omega
  cases hx with
  | slice hr hl =>
   rename_i c rb
   refine⟨.pointer (some ⟨rb.b,rb.off+(o+k * n),none⟩),?_,.ptr hr⟩
   simp_all[Instr.indexAt,asIntOf,CW,DT,FA,A8u]
  | sliceOpen hr hs hl h1 h2 =>
   rename_i c rb
   refine⟨.pointer (some ⟨rb.b,rb.off+(o+k * n),none⟩),?_,.ptr hr⟩
   simp_all[Instr.indexAt,asIntOf,CW,DT,FA,A8u]
  | sliceEnd=>omega
theorem tC(h:DU P ρ s w){t ty:TypeId}{x v:AV}{x':Value}{tys:Array TypeId}(ht:tys[0]? = some t)(hs:D9 P s t x=some v)(hx:Cc ρ x x'):
    ∃v',(Builtin.len_ tys ty #[x']).run P w=.ok v' w∧Cc ρ v v':=by
  unfold D9 at hs
  split at hs<;>first | (cases hs;done) | skip
  · split at hs<;>first | (cases hs;done) | skip
    rename_i hu
    injection hs with hs;subst hs
    cases hx with
    | str he =>
      rename_i b
      subst he
      refine⟨.int .i64 b.size,by simp_all[Builtin.len_,CW,goInt],?_⟩
      have:(Int.ofNat (HS b.data.toList).length)=(b.size:Int):=by rw[Jn];rfl
      rw[this]
      exact .int _ _
  · split at hs<;>first | (cases hs;done) | skip
    rename_i hu
    injection hs with hs;subst hs
    cases hx<;>exact⟨_,by simp_all[Builtin.len_,CW,goInt],.int _ _⟩
  · split at hs<;>first | (cases hs;done) | skip
    rename_i hu
    injection hs with hs;subst hs
    cases hx
    exact⟨_,by simp_all[Builtin.len_,CW,goInt],.int _ _⟩
  · split at hs <;> first | (cases hs; done) | skip
    rename_i i _ k e hu
    split at hs<;>first | (cases hs;done) | skip
    all_goals
      rename_i kt es hg
      injection hs with hs;subst hs
      cases hx with
      | map hr =>
        rename_i rb
        obtain⟨es',clock,hh,_,⟨l,hp,he⟩,_⟩:=(show Kn P ρ w kt es rb from h.obj i _ rb hg hr).ex
        have hlen:es.length=es'.size:=by
          have:=he.length
          have:=hp.length_eq
          simp at this;omega
        refine⟨.int .i64 es'.size,by simp_all[Builtin.len_,CW,goInt,getObj,Sem.run],?_⟩
        rw[hlen]
        exact .int _ _
theorem rL(h:DU P ρ s w){t ty:TypeId}{x v:AV}{x':Value}{tys:Array TypeId}(ht:tys[0]? = some t)(hs:eP P s t x=some v)(hx:Cc ρ x x'):
    ∃v',(Builtin.cap_ tys ty #[x']).run P w=.ok v' w∧Cc ρ v v':=by
  unfold eP at hs
  split at hs<;>first | (cases hs;done) | skip
  rename_i a len cap
  split at hs<;>first | (cases hs;done) | skip
  rename_i e hu
  split at hs
  · injection hs with hs;subst hs
    cases hx<;>exact⟨_,by simp_all[Builtin.cap_,CW,goInt],.int _ _⟩
  · split at hs<;>first | (cases hs;done) | skip
    rename_i i o
    simp only[A8G]at hs
    obtain⟨n,hn,r,hrow,hs⟩:=hs
    obtain⟨hg,hs⟩:=CM hs
    injection hs with hs;subst hs
    simp only[A9W,A9Y,A8Q]at hg
    obtain⟨⟨⟨g1,g2⟩,g3⟩,g4⟩:=hg
    have g3:=Cv g3
    have hn0:0<n:=by grind
    cases hx with
    | sliceOpen hr hs hl h1 h2 =>
      rename_i c rb
      have hok:Dr ρ w r rb:=h.obj i _ rb (DW hrow) hr
      have hsz:rb.sz=n:=by rw[← hok.sz];exact g3.symm
      have hN:rb.N=r.n:=hok.tight g1
      rw[hsz,hN]at h1 h2
      have:(r.n - o) / n=c:=by
        have e1:c * n≤r.n - o:=by omega
        have e2:r.n - o<(c+1) * n:=by omega
        exact Nat.le_antisymm (Nat.lt_succ_iff.1 ((Nat.div_lt_iff_lt_mul hn0).2 e2)) ((Nat.le_div_iff_mul_le hn0).2 e1)
      refine⟨.int .i64 c,by simp_all[Builtin.cap_,CW,goInt],?_⟩
      rw[this]
      exact .int _ _
    | sliceEnd hr hs h1 h2 =>
      rename_i rb ad
      have hok:Dr ρ w r rb:=h.obj i _ rb (DW hrow) hr
      have hsz:rb.sz=n:=by rw[← hok.sz];exact g3.symm
      have hN:rb.N=r.n:=hok.tight g1
      rw[hsz,hN]at h2
      have:(r.n - o) / n=0:=Nat.div_eq_of_lt (by omega)
      refine⟨.int .i64 (0:Nat),by simp_all[Builtin.cap_,CW,goInt],?_⟩
      rw[this]
      exact .int _ _
theorem Ld{mx:Bool}:∀ {l:List AV}{v r:AV}{v':Value}{l':List Value},LF mx v l=some r→Cc ρ v v'→Cb ρ l l' →
    ∃r',(l'.foldlM (if mx then Builtin.max2 else Builtin.min2) v').run P w=.ok r' w∧Cc ρ r r'
  | [],v,r,v',l',h,hv,hl=>by
    cases hl
    simp_all[LF]
  | a::l,v,r,v',l',h,hv,hl=>by
    cases hl with
    | cons ha hl =>
      unfold LF at h
      split at h<;>first | (cases h;done) | skip
      · rename_i hq;cases hq
      · rename_i k a k2 b l2 hq
        injection hq with h1 h2
        subst h1;subst h2
        obtain⟨hk,hg⟩:=CM h
        clear h
        have hkk:=GC hk
        clear hk
        subst hkk
        cases hv;cases ha
        cases mx with
        | true =>
          obtain⟨r',e1,e2⟩:=Ld hg (.int _ _) hl
          refine⟨r',?_,e2⟩
          simp only[cond_true,Hq]at e1
          simp only[if_true,List.foldlM_cons,Builtin.max2]at e1 ⊢
          grind
        | false =>
          obtain⟨r',e1,e2⟩:=Ld hg (.int _ _) hl
          refine⟨r',?_,e2⟩
          simp only[cond_false,Hq]at e1
          simp only[if_neg Bool.false_ne_true,List.foldlM_cons,Builtin.min2]at e1 ⊢
          grind
theorem QR:∀ {l:List AV}{l':List Value}{b:List Nat}{acc:ByteArray},EP.bytesOf l=some b→Cb ρ l l' →
    ∃r:ByteArray,((forIn (m:=Sem) l' acc fun c (s:ByteArray)=>match c with
      | .int .u8 n=>pure (ForInStep.yield (s.push (UInt8.ofNat n.toNat)))
      | _=>do
        stuck "bytesToString: byte expected"
        pure (ForInStep.yield s))).run P w=.ok r w∧HS r.data.toList=HS acc.data.toList++b
  | [],l',b,acc,h,hl=>by
    cases hl
    simp_all[EP.bytesOf]
  | a::l,l',b,acc,h,hl=>by
    cases hl with
    | cons ha hl =>
      unfold EP.bytesOf at h
      split at h<;>first | (cases h;done) | skip
      · rename_i hq;cases hq
      · rename_i n l2 hq
        injection hq with h1 h2
        subst h1;subst h2
        obtain⟨hb,hg⟩:=CM h
        clear h
        simp only[A8G]at hg
        obtain⟨b',hb',hg⟩:=hg
        injection hg with hg;subst hg
        cases ha
        obtain⟨r,e1,e2⟩:=QR (acc:=acc.push (UInt8.ofNat n)) hb' hl
        refine⟨r,?_,?_⟩
        · rw[← e1]
          simp
        · rw[e2]
          have:n<256:=by simpa[A8Y]using hb
          simp[ByteArray.push,Nat.mod_eq_of_lt this]
theorem mX(h:DU P ρ s w){src dst:TypeId}{x v:AV}{x':Value}(hs:EP P s src dst x=some v)(hx:Cc ρ x x'):
    ∃v',(convert src dst x').run P w=.ok v' w∧Cc ρ v v':=by
  unfold EP at hs
  split at hs<;>first | (cases hs;done) | skip
  · rename_i d k kd n hd hk
    injection hs with hs;subst hs
    cases hx
    exact⟨.int k (k.wrap n),by simp[convert,CW hd,CW hk,Conv.intToInt],by rw[LS];exact .int _ _⟩
  · rename_i d l hd hk
    injection hs with hs;subst hs
    cases hx with
    | str he=>exact⟨_,by simp[convert,CW hd,CW hk]<;>rfl,.str he⟩
  · rename_i e a len cap hd hk
    split at hs<;>first | (cases hs;done) | skip
    rename_i he
    split at hs
    · injection hs with hs;subst hs
      cases hx<;>exact⟨.string .empty,by simp[convert,CW hd,CW hk,CW he,Conv.bytesToString],.str rfl⟩
    · rename_i i o
      simp only[A8G]at hs
      obtain⟨l,hl,b,hb,hs⟩:=hs
      injection hs with hs;subst hs
      obtain⟨rb,ad,c,hr,hv,hlc,hexact,hopen⟩:=GD hx
      subst hv
      obtain⟨l',e1,e2,e3⟩:=FR h hr hl
      have e3':(loadCells ad len).run P w=.ok l'.toArray w:=by
        cases cap with
        | some c0=>obtain⟨_,rfl⟩:=hexact c0 rfl;exact e3 w rfl
        | none =>
          rcases(hopen rfl).2 with⟨rfl,_⟩ | ⟨rfl,_⟩
          · exact e3 w rfl
          · have:l'=[]:=by simpa using e2
            subst this
            exact Id ad w
      obtain⟨r,f1,f2⟩:=QR (P:=P) (w:=w) (acc:=.empty) hb e1
      refine⟨.string r,?_,.str (by simpa using f2)⟩
      simp only[convert,Sem.run_bind,CW hd,CW hk,CW he,Result.andThen_ok,Conv.bytesToString,e3']
      simp only[List.forIn_toArray]
      exact(congrArg (fun(r:Result ByteArray)=>r.andThen fun a w'=>Sem.run P (pure (Value.string a)) w') f1)
  · rename_i u hsr hds
    obtain⟨rfl,h1,_⟩:=Sa h hs hx
    have:=h1 src dst hsr hds
    refine⟨x',?_,hx⟩
    rw[← this]
    have hp:∃a,x'=.pointer a:=by
      unfold EP.seenPtr at hs
      split at hs<;>first | (cases hs;done) | (cases hx;exact⟨_,rfl⟩)
    obtain⟨a,rfl⟩:=hp
    simp[convert,CW hsr,CW hds]
  · rename_i u hsr hds
    obtain⟨rfl,_,h1⟩:=Sa h hs hx
    have:=h1 src dst hsr hds
    refine⟨x',?_,hx⟩
    rw[← this]
    have hp:∃a,x'=.pointer a:=by
      unfold EP.seenPtr at hs
      split at hs<;>first | (cases hs;done) | (cases hx;exact⟨_,rfl⟩)
    obtain⟨a,rfl⟩:=hp
    simp[convert,CW hsr,CW hds]
end
section
variable{P:Program}{ρ ρ1 ρ2:DV}{s s1 s2:CO}{w w1 w2:World}
theorem IF{x:AV}{x':Value}{y i:Nat}(h:Fd x y=some i)(hx:Cc ρ x x')(code:BoundsCode):
  i≤y∧(Instr.sliceBound x' y code).run P w=.ok i w:=by
 unfold Fd at h
 simp only[A8G]at h
 obtain⟨k,hk,h⟩:=h
 obtain⟨hle,h⟩:=CM h
 injection h with h;subst h
 obtain⟨kd,rfl⟩:=RV hk hx
 simp_all[Instr.sliceBound,asIntOf]
inductive QE (ρ:DV):Option AV→Option Value→Prop
 | none:QE ρ none none
 | some {v:AV} {v':Value} (h:Cc ρ v v'):QE ρ (some v) (some v')
def A6D(cap m:Nat):Option AV→Prop
 | some v=>Fd v cap=some m
 | none=>m=cap
def A6C(mx:Option AV)(len m h:Nat):Option AV→Prop
 | some v=>Fd v m=some h
 | none=>h=len∧mx=none
def A3y(h l:Nat):Option AV→Prop
 | some v=>Fd v h=some l
 | none=>l=0
theorem HJ{lo hi mx:Option AV}{lo' hi' mx':Option Value}(hlo:QE ρ lo lo')(hhi:QE ρ hi hi')(hmx:QE ρ mx mx')(isS:Bool){len cap m h l:Nat}
  (h1:A6D cap m mx) (h2:A6C mx len m h hi) (h3:A3y h l lo):
  (Instr.sliceBounds isS len cap lo' hi' mx').run P w=.ok (l,h,m) w:=by
 unfold Instr.sliceBounds
 cases hmx with
 | none =>
  have h1:m=cap:=h1
  subst h1
  cases hhi with
  | none =>
   obtain⟨rfl,_⟩:=h2
   cases hlo with
   | none=>have h3:l=0:=h3;subst h3;simp
   | some hv=>obtain⟨_,e⟩:=IF (P:=P) (w:=w) h3 hv .sliceB;simp[e]
  | some hv =>
   obtain⟨_,e⟩:=IF (P:=P) (w:=w) h2 hv (if isS then .sliceAcap else .sliceAlen)
   cases hlo with
   | none=>have h3:l=0:=h3;subst h3;simp[e]
   | some hv2=>obtain⟨_,e2⟩:=IF (P:=P) (w:=w) h3 hv2 .sliceB;simp[e,e2]
 | some hm =>
  obtain⟨_,e0⟩:=IF (P:=P) (w:=w) h1 hm (if isS then .slice3Acap else .slice3Alen)
  cases hhi with
  | none=>exact absurd h2.2 (by simp)
  | some hv =>
   obtain⟨_,e⟩:=IF (P:=P) (w:=w) h2 hv .slice3B
   cases hlo with
   | none=>have h3:l=0:=h3;simp_all
   | some hv2=>obtain⟨_,e2⟩:=IF (P:=P) (w:=w) h3 hv2 .slice3C;simp[e0,e,e2]
theorem PE{x:AV}{y z i:Nat}(h:Fd x y=some i)(hle:y≤z):Fd x z=some i:=by
 unfold Fd at h ⊢
 simp only[A8G]at h ⊢
 obtain⟨k,hk,h⟩:=h
 obtain⟨h1,h2⟩:=CM h
 refine⟨k,hk,?_⟩
 have:k≤y:=by simp_all
 have:Nat.ble k z=true:=by grind [Nat.ble_eq]
 grind
theorem GH{x:AV}{y i:Nat}(h:Fd x y=some i):i≤y:=by
 grind [Fd,Option.bind_eq_some_iff,CM,Nat.ble_eq]
theorem VO(s:ByteArray)(o h:Nat):HS (s.extract o h).data.toList=((HS s.data.toList).drop o).take (h - o):=by
 simp_all
theorem ig{lo hi mx:Option AV}{lo' hi' mx':Option Value}(hlo:QE ρ lo lo')(hhi:QE ρ hi hi')(hmx:QE ρ mx mx'){len i o:Nat}{e:TypeId}{v:AV}{rb:RB}(hr:ρ i=some rb)
    (hs:Fh.arr P lo hi mx len e i o=some v):
    ∃l h m n,(Instr.sliceBounds false len len lo' hi' mx').run P w=.ok (l,h,m) w∧DZ P e=some n ∧
      Cc ρ v (.slice (some (if m=l then ⟨rb.b,rb.off+o,none⟩else (⟨rb.b,rb.off+o,none⟩:Addr).add (l * n))) (h - l) (m - l)):=by
  unfold Fh.arr at hs
  simp only[A8G]at hs
  obtain⟨n,hn,m,hm,h,hh,l,hl,hs⟩:=hs
  injection hs with hs;subst hs
  have hmh:h≤m:=by
    cases hi with
    | some v=>exact GH hh
    | none =>
      grind
  have hlh:l≤h:=by
    cases lo with
    | some v=>exact GH hl
    | none=>simp at hl;omega
  refine⟨l,h,m,n,HJ hlo hhi hmx false ?_ ?_ ?_,hn,?_⟩
  · cases mx with
    | some v=>exact hm
    | none=>simp at hm;show m=len;omega
  · cases hi with
    | some v=>exact hh
    | none =>
      cases mx with
      | none=>simp at hh;exact⟨by omega,rfl⟩
      | some _=>simp at hh
  · cases lo with
    | some v=>exact hl
    | none=>simp at hl;show l=0;omega
  · by_cases e1 : m = l
    · rw[if_pos e1,show Nat.beq m l=true from by subst e1;simp]
      exact .slice hr (by omega)
    · rw[if_neg e1,show Nat.beq m l=false from by grind [Cv],FA,cond_false,A8u]
      exact .slice hr (by omega)
theorem IN(hI:DU P ρ s w){t:TypeId}{x v:AV}{x':Value}{lo hi mx:Option AV}{lo' hi' mx':Option Value}(hs:Fh P s t x lo hi mx=some v)(hx:Cc ρ x x')
    (hlo:QE ρ lo lo') (hhi:QE ρ hi hi') (hmx:QE ρ mx mx'):
    ∃v',(Instr.sliceAt t x' lo' hi' mx').run P w=.ok v' w∧Cc ρ v v':=by
  unfold Fh at hs
  split at hs<;>first | (cases hs;done) | skip
  ·
    rename_i l
    simp only[A8G]at hs
    obtain⟨_,h0,h,hh,o,ho,_,hu,hs⟩:=hs
    injection hs with hs;subst hs
    split at hu<;>first | (cases hu;done) | skip
    rename_i hu'
    cases hmx with
    | some _=>cases h0
    | none =>
      cases hx with
      | str he =>
        rename_i b
        subst he
        have hlen:(HS b.data.toList).length=b.size:=Jn b
        have hb:(Instr.sliceBounds false b.size b.size lo' hi' none).run P w=.ok (o,h,b.size) w:=by
          refine HJ hlo hhi .none false rfl ?_ ?_
          · cases hi with
            | some v=>simp only at hh;rw[hlen]at hh;exact hh
            | none=>simp only[A9b]at hh;rw[hlen]at hh;exact⟨hh.symm,rfl⟩
          · cases lo with
            | some v=>exact ho
            | none=>simp only[A9b]at ho;exact ho.symm
        refine⟨.string (b.extract o h),?_,.str (VO b o h)⟩
        simp_all[Instr.sliceAt,Instr.slice,CW]
  ·
    rename_i a len cap
    split at hs<;>first | (cases hs;done) | skip
    rename_i e hu
    simp only[A8G]at hs
    obtain⟨n,hn,far,hfar,m,hm,h,hh,l,hl,hs⟩:=hs
    injection hs with hs;subst hs
    have key:∀ (a':Option Addr) (c M:Nat),x'=.slice a' len c→(Instr.sliceBounds true len c lo' hi' mx').run P w=.ok (l,h,M) w →
        (Instr.sliceAt t x' lo' hi' mx').run P w=.ok (.slice (if M=l then a' else a'.map (·.add (l * n))) (h - l) (M - l)) w:=by
      simp_all[Instr.sliceAt,Instr.slice,CW,DT]
    have hlh:l≤h:=by
      cases lo with
      | some v=>exact GH hl
      | none=>simp at hl;omega
    have hl':A3y h l lo:=by
      cases lo with
      | some v=>exact hl
      | none=>simp at hl;show l=0;omega
    cases a with
    | none =>
      cases hx
      cases mx with
      | none =>
        simp only[A9b]at hm hfar
        subst hm
        have hh0:h≤0:=by
          cases hi with
          | some v=>exact GH hh
          | none=>simp at hh;omega
        have hb:(Instr.sliceBounds true 0 0 lo' hi' mx').run P w=.ok (l,h,0) w:=by
          refine HJ hlo hhi hmx true rfl ?_ hl'
          cases hi with
          | some v=>exact hh
          | none=>simp at hh;exact⟨by omega,rfl⟩
        refine⟨_,key none 0 0 rfl hb,?_⟩
        have e1:h - l=0:=by omega
        simp only[e1,Option.map_none,Nat.zero_sub,ite_self]
        exact .sliceNil
      | some mv =>
        simp only[A9b]at hfar
        subst hfar
        simp only[A8G]at hm
        obtain⟨c,hc,hm⟩:=hm
        obtain⟨_,hm⟩:=CM hm
        injection hm with hm;subst hm
        have hc0:c≤0:=GH hc
        have hc0:c=0:=by omega
        subst hc0
        have hh0:h≤0:=by
          cases hi with
          | some v=>exact GH hh
          | none=>simp at hh
        have hb:(Instr.sliceBounds true 0 0 lo' hi' mx').run P w=.ok (l,h,0) w:=by
          refine HJ hlo hhi hmx true hc ?_ hl'
          cases hi with
          | some v=>exact hh
          | none=>simp at hh
        refine⟨_,key none 0 0 rfl hb,?_⟩
        have e1:h - l=0:=by omega
        simp only[e1,Option.map_none,Nat.zero_sub,ite_self]
        exact .sliceNil
    | some io =>
      obtain⟨i,o⟩:=io
      obtain⟨rb,ad,c,hr,hv,hlc,hexact,hopen⟩:=GD hx
      have hfc:far≤c∧(cap=none→ad=⟨rb.b,rb.off+o,none⟩∨far=0)∧(cap=none→rb.sz=n):=by
        cases cap with
        | some c0 =>
          grind
        | none =>
          simp only[A8G]at hfar
          obtain⟨r,hrow,hfar⟩:=hfar
          obtain⟨hg,hfar⟩:=CM hfar
          injection hfar with hfar
          simp only[A9W,A9Y,A8Q]at hg
          obtain⟨⟨g1,g2⟩,g3⟩:=hg
          have g2:=Cv g2
          have hn0:0<n:=by
            grind
          have hok:Dr ρ w r rb:=hI.obj i _ rb (DW hrow) hr
          have hsz:rb.sz=n:=by rw[← hok.sz];exact g2.symm
          have hle:=hok.le
          obtain⟨_,hc⟩:=hopen rfl
          rw[hsz]at hc
          rcases hc with⟨e1,c1,c2⟩ | ⟨e1,e2,c1,c2⟩
          · refine ⟨?_, fun _ => .inl e1, fun _ => hsz⟩
            rw[← hfar]
            exact Nat.lt_succ_iff.1 ((Nat.div_lt_iff_lt_mul hn0).2 (by grind))
          · have:far=0:=by rw[← hfar];exact Nat.div_eq_of_lt (by omega)
            grind
      obtain⟨hfc,hfa,hsn⟩:=hfc
      subst hv
      cases mx with
      | some mv =>
        simp only[A8G]at hm
        obtain⟨c1,hc1,hm⟩:=hm
        obtain⟨hg,hm⟩:=CM hm
        injection hm with hm;subst hm
        have had:ad=⟨rb.b,rb.off+o,none⟩:=by
          cases cap with
          | some c0=>grind
          | none =>
            rcases hfa rfl with h' | h'
            · exact h'
            simp_all
        have hh1:h≤c1:=by
          cases hi with
          | some v=>exact GH hh
          | none=>simp at hh
        have hb:(Instr.sliceBounds true len c lo' hi' mx').run P w=.ok (l,h,c1) w:=by
          refine HJ hlo hhi hmx true (PE hc1 hfc) ?_ hl'
          cases hi with
          | some v=>exact hh
          | none=>simp at hh
        refine⟨_,key _ c c1 rfl hb,?_⟩
        subst had
        by_cases e1:c1=l
        · rw[if_pos e1]
          simp only[show Nat.beq c1 l=true from by subst e1;simp,cond_true]
          exact .slice hr (by omega)
        · rw[if_neg e1]
          simp only[show Nat.beq c1 l=false from by grind [Cv],FA,cond_false,A8u,A8v]
          exact .slice hr (by omega)
      | none =>
        simp only[A9b]at hm
        subst hm
        cases cap with
        | some c0 =>
          obtain⟨rfl,had⟩:=hexact c0 rfl
          have hh1:h≤c:=by
            cases hi with
            | some v=>exact GH hh
            | none=>simp at hh;omega
          have hb:(Instr.sliceBounds true len c lo' hi' mx').run P w=.ok (l,h,c) w:=by
            refine HJ hlo hhi hmx true rfl ?_ hl'
            cases hi with
            | some v=>exact hh
            | none=>simp at hh;exact⟨by omega,rfl⟩
          refine⟨_,key _ c c rfl hb,?_⟩
          subst had
          by_cases e1:c=l
          · rw[if_pos e1]
            simp only[show Nat.beq c l=true from by subst e1;simp,cond_true]
            exact .slice hr (by omega)
          · rw[if_neg e1]
            simp only[show Nat.beq c l=false from by grind [Cv],FA,cond_false,A8u,A8v]
            exact .slice hr (by omega)
        | none =>
          obtain⟨hs0,hc⟩:=hopen rfl
          have hsn:=hsn rfl
          have hh1:h≤c:=by
            cases hi with
            | some v=>exact A8Z (GH hh) hfc
            | none=>simp at hh;omega
          have hb:(Instr.sliceBounds true len c lo' hi' mx').run P w=.ok (l,h,c) w:=by
            refine HJ hlo hhi hmx true rfl ?_ hl'
            cases hi with
            | some v=>exact PE hh hfc
            | none=>simp at hh;exact⟨by omega,rfl⟩
          refine⟨_,key _ c c rfl hb,?_⟩
          rw[hsn]at hc hs0
          simp only
          rcases hc with⟨rfl,c1,c2⟩ | ⟨rfl,rfl,c1,c2⟩
          · by_cases e1 : c = l
            · subst e1
              rw[if_pos rfl,show h - c=0 from by omega,Nat.sub_self]
              rw[A8o,Nat.one_mul]at c2
              exact .sliceEnd hr (by omega) (by omega) (by rw[hsn];omega)
            · rw[if_neg e1]
              simp only[A8v,FA,A8u]
              obtain⟨d,hd⟩:∃d,c=l+d:=⟨c - l,by omega⟩
              subst hd
              rw[show l+d - l=d from by omega]
              rw[A8o]at c1
              rw[show(l+d+1) * n=l * n+(d+1) * n from by grind]at c2
              exact .sliceOpen hr (by omega) (by omega) (by rw[hsn];omega) (by rw[hsn];omega)
          grind
  ·
    rename_i i o
    cases hx with
    | ptr hr =>
      rename_i rb
      split at hs<;>first | (cases hs;done) | skip
      · rename_i len e hu
        obtain⟨l,h,m,n,e1,e2,e3⟩:=ig (P:=P) (w:=w) hlo hhi hmx hr hs
        simp_all[Instr.sliceAt,CW,Instr.sureAddr,DT]
      · rename_i u hu
        split at hs<;>first | (cases hs;done) | skip
        rename_i len e hu2
        obtain⟨l,h,m,n,e1,e2,e3⟩:=ig (P:=P) (w:=w) hlo hhi hmx hr hs
        simp_all[Instr.sliceAt,Instr.slice,CW,asAddr,DT]
end
section
variable{P:Program}{ρ ρ1 ρ2:DV}{s s1 s2:CO}{w w1 w2:World}
theorem Ss(h:DU P ρ s w){i o n size len:Nat}{cap:Option Nat}{x':Value}{l:List AV}(hx:Cc ρ (.slice (some (i,o)) len cap) x')(hn:n≤len)(hl:Di s i o (n * size)=some l):
  ∃l':List Value,Cb ρ l l'∧l'.length=n * size∧∀w1:World,w1.heap=w.heap→(Builtin.firstCells size n x').run P w1=.ok l'.toArray w1:=by
 obtain⟨rb,ad,c,hr,hv,hlc,hexact,hopen⟩:=GD hx
 subst hv
 obtain⟨l',e1,e2,e3⟩:=FR h hr hl
 refine⟨l',e1,e2,fun w1 hw1=>?_⟩
 cases cap with
 | some c0=>obtain⟨_,rfl⟩:=hexact c0 rfl;exact e3 w1 hw1
 | none =>
  rcases(hopen rfl).2 with⟨rfl,_⟩ | ⟨rfl,_⟩
  ·exact e3 w1 hw1
  simp_all[Builtin.firstCells,Id]
theorem Nw(h:DU P ρ s w){i o len size n:Nat}{cap:Option Nat}{ad:Addr}{c:Nat}{vs:List AV}{vs':List Value}(hx:Cc ρ (.slice (some (i,o)) len cap) (.slice (some ad) len c))
  (hv:Cb ρ vs vs') (hlen:len=0→vs=[]) (hs:EC s i o vs=some s1):∃w1,(storeCells ad vs').run P w=.ok () w1∧DU P ρ s1 w1∧Fr ρ s w ρ s1 w1:=by
 obtain⟨rb,ad0,c0,hr,hv0,hlc,hexact,hopen⟩:=GD hx
 injection hv0 with q1 q2 q3
 injection q1 with q1
 subst q1;subst q3
 have exq:ad=⟨rb.b,rb.off+o,none⟩→∃w1,(storeCells ad vs').run P w=.ok () w1∧DU P ρ s1 w1∧Fr ρ s w ρ s1 w1:=by
  grind [IP]
 cases cap with
 | some c0=>grind
 | none =>
  rcases(hopen rfl).2 with⟨e,_⟩ | ⟨e,_⟩
  ·exact exq e
  ·have:=hlen e
   subst this
   cases hv
   simp[EC]at hs
   subst hs
   exact⟨w,rfl,h,Fr.refl _ _ _⟩
theorem mY(h:DU P ρ s w){tys:Array TypeId}{ty:TypeId}{args:List AV}{v:AV}{args':Array Value}(hs:Kx P s tys.toList args=some (v,s1))(ha:Cb ρ args args'.toList):
    bM P ρ s w (Builtin.copy_ tys ty args') v s1:=by
  obtain⟨tyl⟩:=tys
  obtain⟨argl⟩:=args'
  simp only at hs ha
  unfold Kx at hs
  split at hs<;>first | (cases hs;done) | skip
  rename_i dt tl a dl cap x
  cases ha with
  | cons ha hb =>
  rename_i a' l1
  cases hb with
  | cons hx hnil =>
  rename_i x' l2
  cases hnil
  split at hs<;>first | (cases hs;done) | skip
  rename_i e hu
  simp only[A8G]at hs
  obtain⟨size,hsize,sl,hsl,cells,hcells,s',hst,hs⟩:=hs
  injection hs with hs
  injection hs with hs1 hs2
  subst hs1;subst hs2
  have hmin:(bif Nat.ble sl dl then sl else dl)=Nat.min sl dl:=by
    cases hb:Nat.ble sl dl with
    | true=>simp_all
    | false => have : dl ≤ sl := by
                 grind [Nat.ble_eq_true_of_le]
               grind
  rw[hmin]at hcells ⊢
  have hlen:(Builtin.lenOf x').run P w=.ok sl w:=by
    split at hsl<;>first | (cases hsl;done) | skip
    · injection hsl with hsl;subst hsl
      cases hx<;>rfl
    · injection hsl with hsl;subst hsl
      cases hx with
      | str he=>subst he;rw[Jn];rfl
  have hsrc:∃l':List Value,Cb ρ cells l'∧(Builtin.firstCells size (Nat.min sl dl) x').run P w=.ok l'.toArray w∧(Nat.min sl dl=0→cells=[]):=by
    split at hcells<;>first | (cases hcells;done) | skip
    · injection hcells with hcells;subst hcells
      cases hx
      exact⟨[],.nil,rfl,fun _=>rfl⟩
    · simp only [A9b]               at hsl
      subst hsl
      obtain⟨l',e1,e2,e3⟩:=Ss h hx (Nat.min_le_left _ _) hcells
      refine⟨l',e1,e3 w rfl,fun h0=>?_⟩
      have:=e1.length
      simp_all
    · rename_i l
      obtain⟨hg,hcells⟩:=CM hcells
      injection hcells with hcells;subst hcells
      cases hx with
      | str he =>
        rename_i b
        subst he
        refine⟨((b.extract 0 (Nat.min sl dl)).data.map fun b=>Value.int .u8 b.toNat).toList,?_,by simp only[Builtin.firstCells,Array.toArray_toList,Sem.run_pure],fun h0=>by rw[h0];rfl⟩
        have hk:∀l:List UInt8,Cb ρ ((HS l).map fun b=>AV.int .u8 (.ofNat b)) (l.map fun b=>Value.int .u8 b.toNat):=by
          intro l
          induction l with
          | nil=>exact .nil
          | cons a l ih=>exact .cons (.int _ _) ih
        have:=hk (b.extract 0 (Nat.min sl dl)).data.toList
        simp_all
  obtain⟨l',e1,e2,e3⟩:=hsrc
  have hrun:∀ (base:Option Addr) (c:Nat),a'=.slice base dl c→∀w1,(match base with | some ad=>storeCells ad l' | none=>pure ()).run P w=.ok () w1 →
      (Builtin.copy_ ⟨dt::tl⟩ ty ⟨[a',x']⟩).run P w=.ok (.int .i64 (Nat.min sl dl:Nat)) w1:=by
    intro base c hb w1 hw1
    subst hb
    cases base with
    | none =>
      simp_all[Builtin.copy_,CW,DT,goInt]
    | some ad =>
      simp_all[Builtin.copy_,CW,DT,goInt]
  cases a with
  | none =>
    simp only[A9b]at hst
    subst hst
    cases ha
    exact⟨_,_,ρ,hrun none 0 rfl w rfl,.int _ _,h,Fr.refl _ _ _⟩
  | some io =>
    obtain⟨i,o⟩:=io
    simp only at hst
    obtain⟨rb,ad,c,hr,hv,_⟩:=GD ha
    subst hv
    obtain⟨w1,k1,k2,k3⟩:=Nw (size:=0) (n:=0) h ha e1 (fun h0=>e3 (by grind)) hst
    exact⟨_,w1,ρ,hrun (some ad) c rfl w1 k1,.int _ _,k2,k3⟩
theorem UU(ρ:DV){t:TypeId}{z:AV}(h:FV P t=some z):∃v,(∀w,(zeroValue t).run P w=.ok v w)∧Cc ρ z v:=by
  unfold FV at h
  split at h
  · split at h
    · simp_all[zeroValue,typeInfo,Ei]
    · cases h
  · cases h
theorem eZ(h:DU P ρ s w){tys:Array TypeId}{ty:TypeId}{args:List AV}{v:AV}{args':Array Value}(hs:VH P s tys.toList args=some (v,s1))(ha:Cb ρ args args'.toList):
  bM P ρ s w (Builtin.clear_ tys ty args') v s1:=by
 obtain⟨tyl⟩:=tys
 obtain⟨argl⟩:=args'
 simp only at hs ha
 unfold VH at hs
 split at hs<;>first | (cases hs;done) | skip
 rename_i t tl x
 cases ha with
 | cons hx hb =>
 rename_i x' l1
 cases hb
 split at hs<;>first | (cases hs;done) | skip
 ·rename_i e n cap hu
  injection hs with hs
  injection hs with hs1 hs2
  subst hs1;subst hs2
  cases hx
  exact⟨_,w,ρ,by simp[Builtin.clear_,CW hu];rfl,Gk ρ,h,Fr.refl _ _ _⟩
 ·have hu:=‹P.underlying t=some (TypeDesc.slice _)›
  injection hs with hs
  injection hs with hs1 hs2
  subst hs1;subst hs2
  cases hx<;>exact⟨_,w,ρ,by simp[Builtin.clear_,CW hu];rfl,Gk ρ,h,Fr.refl _ _ _⟩
 ·rename_i e i o n cap hn hu
  simp only[A8G]at hs
  obtain⟨z,hz,s',hst,hs⟩:=hs
  injection hs with hs
  injection hs with hs1 hs2
  subst hs1;subst hs2
  obtain⟨z',hz1,hz2⟩:=UU ρ hz
  obtain⟨rb,ad,c,hr,hv,_⟩:=GD hx
  subst hv
  have hl:=hz2.cells.length
  obtain⟨w1,k1,k2,k3⟩:=Nw (size:=0) (n:=0) h hx (MP hz2 rfl (by simpa using hl.symm) n) (fun h0=>by subst h0;rfl) hst
  refine⟨_,w1,ρ,?_,Gk ρ,k2,k3⟩
  simp_all[Builtin.clear_,CW,undef]
theorem RW{q:IntKind}{n:Int}(h:D7 q n=true):(Lit.int q n).wf=true:=by
 have e:(Lit.int q n).wf=(decide (q.min≤n) && decide (n≤q.max)):=rfl
 rw[e,A9W,decide_eq_true_eq,decide_eq_true_eq]
 have m1:IntKind.i8.min=-128:=rfl
 have m2:IntKind.i16.min=-32768:=rfl
 have m3:IntKind.i32.min=-2147483648:=rfl
 have m4:IntKind.i64.min=-9223372036854775808:=rfl
 have m5:IntKind.u8.min=0:=rfl
 have m6:IntKind.u16.min=0:=rfl
 have m7:IntKind.u32.min=0:=rfl
 have m8:IntKind.u64.min=0:=rfl
 have x1:IntKind.i8.max=127:=rfl
 have x2:IntKind.i16.max=32767:=rfl
 have x3:IntKind.i32.max=2147483647:=rfl
 have x4:IntKind.i64.max=9223372036854775807:=rfl
 have x5:IntKind.u8.max=255:=rfl
 have x6:IntKind.u16.max=65535:=rfl
 have x7:IntKind.u32.max=4294967295:=rfl
 have x8:IntKind.u64.max=18446744073709551615:=rfl
 cases n with
 | ofNat m =>
  have hm:Int.ofNat m=(m:Int):=rfl
  rw[hm]
  cases q<;>simp only[D7,A8Q]at h<;>omega
 | negSucc m =>
  have hm:Int.negSucc m=-((m:Int)+1):=rfl
  rw[hm]
  cases q<;>simp only[D7,A8Q,Bool.false_eq_true]at h<;>omega
theorem Og{α β:Type}(f:α→Option β):∀ (l:List α),(∀x∈l,∃y,f x=some y)→∃r,l.mapM f=some r
 | [],_=>⟨[],rfl⟩
 | a::l,h=>by
  obtain⟨y,hy⟩:=h a A8M
  obtain⟨r,hr⟩:=Og f l fun x hx=>h x (A8J _ hx)
  simp_all
theorem oS{N M:Nat}:∀ (n:Nat)(t:TypeId)(cs:List AV)(cs':List Value),MG P n t cs=true→Cb ρ cs cs'→P.keyTypeAt (n+N) t=true→∃l,P.keyLits (n+M) t cs'=some l:=by
  intro n
  induction n with
  | zero=>intro t cs cs' h;cases h
  | succ n ih =>
    intro t cs cs' h hr hk
    have hlen:=hr.length
    rw[show n+1+N=(n+N)+1 from by omega]at hk
    rw[show n+1+M=(n+M)+1 from by omega]
    unfold MG at h
    unfold Program.keyTypeAt at hk
    unfold Program.keyLits
    split at h<;>first | (cases h;done) | skip
    · rename_i q hu
      split at h<;>first | (cases h;done) | skip
      rename_i q' m
      simp only[A9W]at h
      cases hr with
      | cons h1 h2 =>
      cases h2
      cases h1
      rw[hu]
      have:=GC h.1
      simp_all[RW]
    · rename_i hu
      split at h<;>first | (cases h;done) | skip
      rename_i l
      cases hr with
      | cons h1 h2 =>
      cases h2
      cases h1 with
      | str hl =>
      rename_i s
      rw[hu]
      have hb:l.length≤1099511627776:=by simp_all
      have hs:s.size≤maxLen:=by
        have:s.size=l.length:=by rw[← hl];simp
        grind [maxLen]
      simp_all
    · rename_i m e hu
      rw[hu]at hk
      simp only[A9W,A8w,List.mem_range]at h
      have h1:cs'.length=P.cellsOf t:=by simp_all
      obtain⟨r,hm⟩:=Og (fun i=>P.keyLits (n+M) e ((cs'.drop (i * P.cellsOf e)).take (P.cellsOf e))) (List.range m) fun i hi=>by
        exact ih e _ _ (h.2 i (List.mem_range.1 hi)) ((hr.drop _).take _) hk
      simp_all
    · rename_i fs hu
      rw[hu]at hk
      simp only[A9W,A8w]at h
      have h1:cs'.length=P.cellsOf t:=by simp_all
      simp only[A9W]at hk
      have hf : ∀ f ∈ fs.toList, f.name ≠ "_" ∧ P.keyTypeAt (n + N) f.type = true := by
        grind [Array.all_eq_true_iff_forall_mem]
      have hn : (fs.all fun f => f.name != "_") = true := by
        grind
      obtain⟨r,hm⟩:=Og (fun f:Field=>P.keyLits (n+M) f.type ((cs'.drop f.offset).take (P.cellsOf f.type))) fs.toList fun f hm=>by
        exact ih f.type _ _ (h.2 f hm) ((hr.drop _).take _) (hf f hm).2
      simp_all
theorem LB{t:TypeId}(h:Ib P t=true):Go.Maps.Keyed P t:=by
 unfold Ib at h
 split at h<;>first | (cases h;done) | skip
 ·grind [Go.Maps.int_keyed]
 ·grind [Go.Maps.string_keyed]
 all_goals
  rename_i hu
  simp only[A9W,A8Q]at h
  exact Go.Maps.Keyed.of_law (deep_law (m:=P.types.size+1) (by omega) h.1 h.2.1 (by rw[hu]))
theorem Hf{t:TypeId}{k:AV}{k':Value}(hok:Ib P t=true)(h:E3 P t k=true)(hk:Cc ρ k k'):∃l,keyOf P t k'=some l:=by
  unfold Ib at hok
  unfold E3 at h
  unfold keyOf
  split at hok<;>first | (cases hok;done) | skip
  · rename_i q hu
    rw[hu]at h ⊢
    simp only[MG,hu]at h
    split at h<;>first | (cases h;done) | skip
    rename_i q' m heq
    simp only[List.cons.injEq,A9T]at heq
    subst heq
    simp only[A9W]at h
    cases hk
    have:=GC h.1
    simp_all[mapKey,RW]
  · rename_i hu
    rw[hu]at h ⊢
    simp only[MG,hu]at h
    split at h<;>first | (cases h;done) | skip
    rename_i l heq
    simp only[List.cons.injEq,A9T]at heq
    subst heq
    cases hk with
    | str hl =>
    rename_i s
    have hb:l.length≤1099511627776:=by simp_all
    have hs:s.size≤maxLen:=by
      have:s.size=l.length:=by rw[← hl];simp
      grind [maxLen]
    simp_all[mapKey]
  all_goals
    rename_i hu
    rw[hu]at h ⊢
    simp only[A9W,A8Q]at hok
    have hk2:∃cs,k=.agg cs∧MG P 4 t cs=true:=by
      grind
    obtain⟨cs,rfl,h⟩:=hk2
    cases hk with
    | agg hr =>
    rename_i cs'
    obtain⟨l,hl⟩:=oS (N:=P.types.size - 3) (M:=P.types.size - 3) 4 t _ _ h hr (by rw[show 4+(P.types.size - 3)=P.types.size+1 from by omega];exact hok.1)
    rw[show 4+(P.types.size - 3)=P.types.size+1 from by omega]at hl
    have hf:(Value.agg cs').formed P t=true:=by
      have hlen:cs.length=cs'.size:=by have:=hr.length;simpa using this
      simp only[MG,hu,A9W]at h
      grind [Nat.eq_of_beq_eq_true,Value.formed]
    have hl':P.keyLits (P.types.size+1) t (Value.agg cs').cells.toList=some l:=hl
    simp_all
theorem du{s1 s2:ByteArray}(h:s1.data.toList.map (fun(b:UInt8)=>b.toNat)=s2.data.toList.map (fun(b:UInt8)=>b.toNat)):s1=s2:=by
 have:Fb (s1.data.toList.map (fun(b:UInt8)=>b.toNat)) (s2.data.toList.map (fun(b:UInt8)=>b.toNat))=true:=by
  rw[h]
  generalize s2.data.toList.map (fun(b:UInt8)=>b.toNat)=l
  induction l with
  | nil=>rfl
  | cons a l ih=>simp_all[Fb]
 rw[Mr]at this
 have:=eq_of_beq this
 cases s1;simp_all
theorem Jp{l1 l2:List Nat}:Fb l1 l2=true↔l1=l2:=by
  induction l1 generalizing l2 with
  | nil=>grind [Fb]
  | cons a l ih =>
    cases l2 with
    | nil=>simp[Fb]
    | cons b l2 =>
      grind [Fb,Nat.eq_of_beq_eq_true,Nat.beq_refl]
theorem Z5:∀ {a b:List AV}{a' b':List Value}{r:Bool},GW.keysEq a b=some r→Cb ρ a a'→Cb ρ b b'→(r=true↔a'=b'):=by
  intro a
  induction a with
  | nil =>
    intro b a' b' r h ha hb
    cases b with
    | nil=>cases ha;cases hb;grind [GW.keysEq]
    | cons x y=>grind [GW.keysEq]
  | cons x l ih =>
    intro b a' b' r h ha hb
    cases b with
    | nil=>grind [GW.keysEq]
    | cons y m =>
      cases ha with
      | cons h1 h2 =>
      cases hb with
      | cons g1 g2 =>
      cases x<;>cases y<;>simp only[GW.keysEq]at h<;>first | (cases h;done) | skip
      · obtain⟨q1,q2⟩:=CM h
        simp only[A8G]at q2
        obtain⟨r1,q3,q4⟩:=q2
        injection q4 with q4
        have:=GC q1
        subst this
        cases h1;cases g1
        have:=ih q3 h2 g2
        rw[← q4,A9W,this,Hn]
        simp
      · simp only[A8G]at h
        obtain⟨r1,q3,q4⟩:=h
        injection q4 with q4
        cases h1 with
        | str e1 =>
        cases g1 with
        | str e2 =>
        have:=ih q3 h2 g2
        rw[← q4,A9W,this,Jp]
        constructor
        · rintro⟨k1,k2⟩
          subst e1;subst e2
          rw[k2,du k1]
        · intro k
          injection k with k1 k2
          injection k1 with k1
          subst k1
          exact⟨e1.symm.trans e2,k2⟩
theorem Tt{k k0:AV}{k' k0':Value}{b:Bool}(h:GW k k0=some b)(hk:Cc ρ k k')(hk0:Cc ρ k0 k0'):b=true↔k0'=k':=by
  cases k<;>cases k0<;>simp only[GW]at h<;>first | (cases h;done) | skip
  · obtain⟨q1,q2⟩:=CM h
    injection q2 with q2
    have:=GC q1
    subst this
    cases hk;cases hk0
    rw[← q2,Hn,beq_iff_eq]
    exact⟨fun e=>by rw[e],fun e=>by injection e with _ e;exact e.symm⟩
  · injection h with h
    cases hk with
    | str e1 =>
    cases hk0 with
    | str e2 =>
    rw[← h,Jp]
    constructor
    · intro k
      subst e1;subst e2
      rw[du k]
    · intro k
      injection k with k
      subst k
      exact e1.symm.trans e2
  · cases hk with
    | agg e1 =>
    cases hk0 with
    | agg e2 =>
    rename_i c1 c2
    rw[Z5 h e1 e2]
    constructor
    · intro k;rw[Array.ext' k]
    · intro k;injection k with k;rw[k]
theorem nV{k:AV}{k':Value}(hk:Cc ρ k k'):∀ {es:List (AV×AV)}{l:List MapEntry}{i:Nat}{r:Option (Nat×AV)},Fw k es i=some r→F1 ρ es l →
      match r with
      | none=>∀e∈l,e.key≠k'
      | some (j,v)=>∃m e',j=i+m∧l[m]? = some e'∧e'.key=k'∧Cc ρ v e'.val:=by
  intro es l i r h he
  induction he generalizing i r with
  | nil=>simp[Fw]at h;subst h;simp
  | cons hk0 hv hs ih =>
    rename_i k0 v0 e0 l l'
    simp only[Fw,A8G]at h
    obtain⟨b,hb',h⟩:=h
    have hkv:=Tt hb' hk hk0
    cases b with
    | true =>
      simp only[A9b]at h
      subst h
      exact⟨0,e0,rfl,rfl,hkv.1 rfl,hv⟩
    | false =>
      simp only at h
      have:=ih h
      cases r with
      | none =>
        intro e he
        rcases A8I.1 he with rfl | he
        · intro hc;have:=hkv.2 hc;cases this
        · exact this e he
      | some q =>
        obtain⟨m,e',q1,q2,q3,q4⟩:=this
        exact⟨m+1,e',by omega,by simpa using q2,q3,q4⟩
theorem aX{l:List MapEntry}(hd:(l.map (·.key)).Nodup){e e':MapEntry}(h:e∈l)(h':e'∈l)(hk:e.key=e'.key):e=e':=by
  induction l with
  | nil=>cases h
  | cons a l ih =>
    simp only[A8U,A8x,List.mem_map,not_exists,not_and]at hd
    rcases A8I.1 h with h1 | h1
    · rcases A8I.1           h' with h2 | h2
      · rw[h1,h2]
      · rw[h1]at hk;exact absurd hk.symm (hd.1 e' h2)
    · rcases A8I.1           h' with h2 | h2
      · rw[h2]at hk;exact absurd hk (hd.1 e h1)
      · exact ih hd.2 h1 h2
theorem Ik{b:Nat}{es:Array MapEntry}{c:Nat}(h:w.heap[b]? = some (.map es c)):(getObj b).run P w=.ok (.map es c) w:=by simp[getObj,Sem.run,h]
theorem KM{b:Nat}{es:Array MapEntry}{c:Nat}(o:Obj)(h:w.heap[b]? = some (.map es c)):(Go.setObj b o).run P w=.ok () { w with heap:=w.heap.setIfInBounds b o }:=by simp[Go.setObj,Sem.run,h]
theorem og(h:DU P ρ s w){kt i:Nat}{es:List (AV×AV)}{rb:RB}(hes:Gw s kt i=some es)(hr:ρ i=some rb):Kn P ρ w kt es rb:=by
 unfold Gw at hes
 split at hes<;>first | (cases hes;done) | skip
 all_goals
  rename_i kt' es' hg
  obtain⟨h1,h2⟩:=CM hes
  injection h2 with h2
  have h1:=A8R h1
  subst h1
  subst h2
  exact h.obj _ _ rb hg hr
theorem IJ{kt i:Nat}{es:List (AV×AV)}(h:Jf s kt i=some es):s.heap.get i=some (.map kt es):=by
 unfold Jf at h
 split at h
 ·rename_i kt' es' hg
  obtain⟨h1,h2⟩:=CM h
  injection h2 with h2
  rw[hg,h2,A8R h1]
 ·cases h
theorem VS{kt:TypeId}{k:AV}{k':Value}{lk:Lit}{es:List (AV×AV)}{es':Array MapEntry}{clock:Nat}{l:List MapEntry}{r:Option (Nat×AV)}(K:Go.Maps.Keyed P kt)(hx:keyOf P kt k'=some lk)(hk:Cc ρ k k')
    (hst:MapKept.Stamped es' clock) (hp:l.Perm es'.toList) (he:F1 ρ es l) (hty:∀e∈es'.toList,∃l,keyOf P kt e.key=some l) (hf:Fw k es 0=some r):
    match r with
    | none=>(∀w:World,(Instr.findKey kt k' es'.toList).run P w=.ok none w)∧∀e∈es'.toList,e.key≠k'
    | some (m,v)=>∃j e,(∀w:World,(Instr.findKey kt k' es'.toList).run P w=.ok (some (j,e.val)) w)∧es'.toList[j]? = some e∧l[m]? = some e∧e.key=k'∧Cc ρ v e.val:=by
  have hfa:=nV hk hf he
  cases r with
  | none =>
    have hno:∀e∈es'.toList,e.key≠k':=fun e he=>hfa e (hp.mem_iff.2 he)
    refine⟨fun w=>?_,hno⟩
    rcases K.find w hx es'.toList hty with⟨h1,_⟩ | ⟨j,e,h1,h2,h3⟩
    · exact h1
    · exact absurd h3 (hno e (A8a h2))
  | some q =>
    obtain⟨m,v⟩:=q
    obtain⟨m',e',q1,q2,q3,q4⟩:=hfa
    have:m'=m:=by omega
    subst this
    have hmem:e'∈es'.toList:=hp.mem_iff.1 (A8a q2)
    obtain⟨j,hj,hj2⟩:=List.mem_iff_getElem.1 hmem
    refine⟨j,e',fun w=>?_,by rw[A8O hj,hj2],q2,q3,q4⟩
    rcases K.find w hx es'.toList hty with⟨_,h2⟩ | ⟨j',e,h1,h2,h3⟩
    · exact absurd q3 (h2 e' hmem)
    · have heq:e=e':=aX hst.2.2 (A8a h2) hmem (h3.trans q3.symm)
      subst heq
      have hjj:j'=j:=by
        have hn:=hst.2.2
        obtain⟨hj',h2'⟩:=List.getElem?_eq_some_iff.1 h2
        have hk2:(es'.toList.map (·.key))[j']'(by simpa using hj')=(es'.toList.map (·.key))[j]'(by simpa using hj):=by simp only[List.getElem_map];rw[h2',hj2]
        exact(List.getElem_inj hn).1 hk2
      rw[h1,hjj]
theorem aD(h:DU P ρ s w){t:TypeId}{m k v:AV}{m' k':Value}{ok:Bool}(hmo:MH P t=true)(hs:Dy P s t m k ok=some v)(hm:Cc ρ m m')(hk:Cc ρ k k'):
    ∃v',(Instr.lookup t m' k' ok).run P w=.ok v' w∧Cc ρ v v':=by
  unfold Dy at hs
  split at hs<;>first | (cases hs;done) | skip
  rename_i kt et hu
  have hko:Ib P kt=true:=by simpa only[MH,hu]using hmo
  have K:=LB hko
  obtain⟨hsk,hg⟩:=CM hs
  clear hs
  obtain⟨lk,hx⟩:=Hf hko hsk hk
  simp only[A8G]at hg
  obtain⟨es,hes,r,hf,p,hp,hg⟩:=hg
  injection hg with hg
  have hent:∃ (es':Array MapEntry) (clock:Nat) (l:List MapEntry),MapKept.Stamped es' clock∧l.Perm es'.toList∧F1 ρ es l∧(∀e∈es'.toList,∃l,keyOf P kt e.key=some l)∧(∀f:Array MapEntry→Sem Value,(do
      let es ← match m' with
        | .map none=>pure #[]
        | .map (some r)=>do
          let .map es _ ← getObj r | stuck "Lookup: map expected"
          pure es
        | _ => stuck "Lookup: map expected"
      f es:Sem Value).run P w=(f es').run P w):=by
    split at hes<;>first | (cases hes;done) | skip
    · injection hes with hes;subst hes
      cases hm
      exact⟨#[],0,[],MapKept.stamped_empty 0,.refl _,.nil,by simp,fun f=>by simp⟩
    · cases hm with
      | map hr =>
        rename_i rb
        obtain⟨es',clock,e1,e2,⟨l,e3,e4⟩,e5⟩:=(og h hes hr).ex
        exact⟨es',clock,l,e2,e3,e4,e5,fun f=>by simp[Ik e1]⟩
  obtain⟨es',clock,l,hst,hperm,he,hty,hrun⟩:=hent
  have hck:=K.check w es'.isEmpty hx
  have hfk:=VS K hx hk hst hperm he hty hf
  have main:∃v':Value,Cc ρ p.1 v'∧(Instr.lookup t m' k' ok).run P w=.ok (if ok then .tuple #[v',.bool p.2]else v') w:=by
    unfold Instr.lookup
    rw[Sem.run_bind,CW hu]
    simp only[Result.andThen_ok]
    cases r with
    | none =>
      simp only at hfk
      simp only[A8G]at hp
      obtain⟨z,hz,hp⟩:=hp
      injection hp with hp;subst hp
      obtain⟨z',hz1,hz2⟩:=UU ρ hz
      refine⟨z',hz2,?_⟩
      refine(hrun _).trans ?_
      simp[hck,hfk.1 w,hz1]
    | some q =>
      obtain⟨j,v0⟩:=q
      simp only[A9b]at hp
      subst hp
      obtain⟨j',e,q1,q2,q3,q4,q5⟩:=hfk
      refine⟨e.val,q5,?_⟩
      refine(hrun _).trans ?_
      simp[hck,q1 w]
  obtain⟨v',m1,m2⟩:=main
  refine⟨_,m2,?_⟩
  subst hg
  cases ok with
  | true=>exact .tuple (.cons m1 (.cons (.bool _) .nil))
  | false=>exact m1
theorem F1.setNth{es:List (AV×AV)}{l:List MapEntry}(h:F1 ρ es l){v:AV}{k' v':Value}(hv:Cc ρ v v'):∀ {m:Nat}{e':MapEntry},l[m]? = some e'→e'.key=k' →
  F1 ρ (setNth es m v) (l.modify m fun e=>{ e with key:=k',val:=v' }):=by
 induction h with
 | nil=>intro m e' h1;simp at h1
 | cons hk0 hv0 hs ih =>
  intro m e' h1 h2
  cases m with
  | zero =>
   simp at h1
   subst h1
   subst h2
   exact .cons hk0 hv hs
  | succ m=>exact .cons hk0 hv0 (ih (by simpa using h1) h2)
theorem F1.delNth{es:List (AV×AV)}{l:List MapEntry}(h:F1 ρ es l):∀ (m:Nat),F1 ρ (delNth es m) (l.eraseIdx m):=by
 induction h with
 | nil=>intro m;simp[Go.Proofs.YtoaaclpjkelofaaGreatDoor.Am.delNth];exact .nil
 | cons hk0 hv0 hs ih =>
  intro m
  cases m with
  | zero=>exact hs
  | succ m=>exact .cons hk0 hv0 (ih m)
theorem F1.append{es fs:List (AV×AV)}{l m:List MapEntry}(h:F1 ρ es l)(k:F1 ρ fs m):F1 ρ (es++fs) (l++m):=by
 induction h with
 | nil=>exact k
 | cons hk0 hv0 hs ih=>exact .cons hk0 hv0 ih
theorem SP{l:List MapEntry}{m:Nat}{e:MapEntry}(h:l[m]? = some e):l.Perm (e::l.eraseIdx m):=by
  induction l generalizing m with
  | nil=>simp at h
  | cons a l ih =>
    cases m with
    | zero=>simp at h;subst h;exact .refl _
    | succ m =>
      have:=ih (m:=m) (by simpa using h)
      exact(this.cons a).trans (.swap e a _)
theorem LM{l:List MapEntry}{m:Nat}{e:MapEntry}(f:MapEntry→MapEntry)(h:l[m]? = some e):(l.modify m f).Perm (f e::l.eraseIdx m):=by
  induction l generalizing m with
  | nil=>simp at h
  | cons a l ih =>
    cases m with
    | zero=>simp at h;subst h;exact .refl _
    | succ m =>
      have:=ih (m:=m) (by simpa using h)
      exact(this.cons a).trans (.swap (f e) a _)
theorem PY{l l2:List MapEntry}(hp:l.Perm l2){m j:Nat}{e:MapEntry}(h:l[m]? = some e)(h2:l2[j]? = some e):(l.eraseIdx m).Perm (l2.eraseIdx j):=
 (((SP h).symm.trans hp).trans (SP h2)).cons_inv
theorem Oq(h:DU P ρ s w){i clock clock1 kt:Nat}{es es1:List (AV×AV)}{es' es1':Array MapEntry}{l1:List MapEntry}{rb:RB}(hg:s.heap.get i=some (.map kt es))(hr:ρ i=some rb)
  (hb:w.heap[rb.b]? = some (.map es' clock)) (hst:MapKept.Stamped es1' clock1) (hp:l1.Perm es1'.toList) (he:F1 ρ es1 l1) (hty:∀e∈es1'.toList,∃l,keyOf P kt e.key=some l):
  DU P ρ (setObj s i (.map kt es1)) { w with heap:=w.heap.setIfInBounds rb.b (.map es1' clock1) } ∧
   Fr ρ s w ρ (setObj s i (.map kt es1)) { w with heap:=w.heap.setIfInBounds rb.b (.map es1' clock1) }:=by
 have hlt:=h.lt i rb hr
 exact h.set hg hr rfl (fun p hp=>by cases hp) rfl (by simp) (fun b hne=>by simp[A9c (Ne.symm hne)]) rfl rfl rfl
  ⟨es1',clock1,by simp[hlt],hst,⟨l1,hp,he⟩,hty⟩
theorem Mt(h:DU P ρ s w){t:TypeId}{m k v:AV}{m' k' v':Value}(hmo:MH P t=true)(hs:EF P s t m k v=some s1)(hm:Cc ρ m m')(hk:Cc ρ k k')(hv:Cc ρ v v'):
    ∃w1,(Instr.mapUpdate t m' k' v').run P w=.ok () w1∧DU P ρ s1 w1∧Fr ρ s w ρ s1 w1:=by
  unfold EF at hs
  split at hs<;>first | (cases hs;done) | skip
  rename_i kt et i hu
  have hko:Ib P kt=true:=by simpa only[MH,hu]using hmo
  have K:=LB hko
  obtain⟨hsk,hg⟩:=CM hs
  clear hs
  obtain⟨lk,hx⟩:=Hf hko hsk hk
  simp only[Pp,A8G]at hg
  obtain⟨es,hes,es1,⟨r,hf,hr1⟩,hg⟩:=hg
  injection hg with hg
  subst hg
  have hget:=IJ hes
  cases hm with
  | map hr =>
    rename_i rb
    obtain⟨es',clock,e1,e2,⟨l,e3,e4⟩,e5⟩:=(show Kn P ρ w kt es rb from h.obj i _ rb hget hr).ex
    have hck:=K.check w false hx
    have hfk:=VS K hx hk e2 e3 e4 e5 hf
    cases r with
    | some q =>
      obtain⟨m,v0⟩:=q
      simp only[A9b]at hr1
      subst hr1
      obtain⟨j,e,q1,q2,q3,q4,q5⟩:=hfk
      have hj:es'[j]? = some e:=by rw[Array.getElem?_toList]at q2;exact q2
      have hst:=MapKept.stamped_modify (i:=j) e2 (fun e=>{ e with key:=k',val:=v' }) (fun _ _=>rfl) (fun e' he' hej=>by rw[hj]at hej;injection hej with hej;subst hej;exact q4.symm)
      have hset:=Oq (clock1:=clock) (es1':=es'.modify j fun e=>{ e with key:=k',val:=v' }) (l1:=l.modify m fun e=>{ e with key:=k',val:=v' }) h hget hr e1 hst
        (by rw[Array.toList_modify];exact(LM (fun e=>{ e with key:=k',val:=v' }) q3).trans (((PY e3 q3 q2).cons _).trans (LM (fun e=>{ e with key:=k',val:=v' }) q2).symm)) (e4.setNth hv q3 q4)
        (fun x hx'=>by
          rw[Array.toList_modify]at hx'
          rcases A8I.1 ((LM (fun e=>{ e with key:=k',val:=v' }) q2).mem_iff.1 hx')with rfl | hx'
          · exact⟨lk,hx⟩
          · exact e5 x (List.mem_of_mem_eraseIdx hx'))
      refine⟨_,?_,hset.1,hset.2⟩
      have hkey:((es'[j]?.map (·.key)).getD k')=k':=by simp[hj,q4]
      simp[Instr.mapUpdate,CW hu,Ik e1,hck,q1 w,hkey,K.stays w hx,KM _ e1]
    | none =>
      simp only[A9b]at hr1
      subst hr1
      have hset:=Oq (clock1:=clock+1) (es1':=es'.push { key:=k',val:=v',born:=clock }) (l1:=l++[{ key:=k',val:=v',born:=clock }]) h hget hr e1
        (MapKept.stamped_push e2 hfk.2) (by rw[Array.toList_push];exact e3.append_right _) (e4.append (.cons hk hv .nil))
        (fun x hx'=>by
          rw[Array.toList_push,A8q,A9E]at hx'
          rcases hx' with hx' | rfl
          · exact e5 x hx'
          · exact⟨lk,hx⟩)
      refine⟨_,?_,hset.1,hset.2⟩
      simp[Instr.mapUpdate,CW hu,Ik e1,hck,hfk.1 w,KM _ e1]
theorem Zg(h:DU P ρ s w){t ty:TypeId}{m k:AV}{m' k':Value}{tys:Array TypeId}(hmo:MH P t=true)(ht:tys[0]? = some t)(hs:Pz P s t m k=some s1)(hm:Cc ρ m m')(hk:Cc ρ k k'):
    ∃w1,(Builtin.delete_ tys ty #[m',k']).run P w=.ok undef w1∧DU P ρ s1 w1∧Fr ρ s w ρ s1 w1:=by
  unfold Pz at hs
  split at hs<;>first | (cases hs;done) | skip
  rename_i kt et hu
  have hko:Ib P kt=true:=by simpa only[MH,hu]using hmo
  have K:=LB hko
  obtain⟨hsk,hg⟩:=CM hs
  clear hs
  obtain⟨lk,hx⟩:=Hf hko hsk hk
  split at hg<;>first | (cases hg;done) | skip
  · injection hg with hg;subst hg
    cases hm
    exact⟨w,by simp[Builtin.delete_,ht,CW hu,K.check w true hx,undef],h,Fr.refl _ _ _⟩
  · rename_i i
    simp only[A8G]at hg
    obtain⟨es,hes,r,hf,hg⟩:=hg
    have hget:=IJ hes
    cases hm with
    | map hr =>
      rename_i rb
      obtain⟨es',clock,e1,e2,⟨l,e3,e4⟩,e5⟩:=(show Kn P ρ w kt es rb from h.obj i _ rb hget hr).ex
      have hck:=K.check w es'.isEmpty hx
      have hfk:=VS K hx hk e2 e3 e4 e5 hf
      cases r with
      | some q =>
        obtain⟨m,v0⟩:=q
        simp only[A9b]at hg
        subst hg
        obtain⟨j,e,q1,q2,q3,q4,q5⟩:=hfk
        have hset:=Oq (clock1:=clock) (es1':=es'.eraseIdxIfInBounds j) (l1:=l.eraseIdx m) h hget hr e1 (MapKept.stamped_erase e2 j)
          (by rw[Array.toList_eraseIdxIfInBounds];exact PY e3 q3 q2) (e4.delNth m)
          (fun x hx'=>by
            rw[Array.toList_eraseIdxIfInBounds]at hx'
            exact e5 x (List.mem_of_mem_eraseIdx hx'))
        refine⟨_,?_,hset.1,hset.2⟩
        simp[Builtin.delete_,ht,CW hu,Ik e1,hck,q1 w,KM _ e1,undef]
      | none =>
        simp only[A9b]at hg
        subst hg
        have hlt:=h.lt i rb hr
        have hsame:w.heap.setIfInBounds rb.b (.map es' clock)=w.heap:=by
          apply Array.ext (by simp)
          intro j hj1 hj2
          by_cases e:rb.b=j
          · subst e
            rw[Array.getElem?_eq_getElem hlt]at e1
            injection e1 with e1
            simp[e1]
          · rw[Array.getElem_setIfInBounds_ne hj2 e]
        refine⟨w,?_,h,Fr.refl _ _ _⟩
        simp[Builtin.delete_,ht,CW hu,Ik e1,hck,hfk.1 w,KM _ e1,undef,hsame]
end
section
variable{P:Program}{ρ ρ1 ρ2:DV}{s s1 s2:CO}{w w1 w2:World}
theorem me{ty:TypeId}{tys:Array TypeId}{x v:AV}{x':Value}(hs:W9 x=some v)(hx:Cc ρ x x'):∃v',(Builtin.unsafeSliceData_ tys ty #[x']).run P w=.ok v' w∧Cc ρ v v':=by
 unfold W9 at hs
 split at hs<;>first | (cases hs;done) | skip
 ·injection hs with hs;subst hs
  cases hx
  exact⟨_,Go.Lib.run_unsafeSliceData_nil w _ _ _ _,.ptrNil⟩
 ·injection hs with hs;subst hs
  cases hx with
  | slice hr hl=>exact⟨_,Go.Lib.run_unsafeSliceData_row w _ _ _ _ _ (by omega),.ptr hr⟩
  | sliceOpen hr hs hl h1 h2=>exact⟨_,Go.Lib.run_unsafeSliceData_row w _ _ _ _ _ (by omega),.ptr hr⟩
theorem PF:∀ {l:List AV}{b:List Nat},EP.bytesOf l=some b→∀v∈l,∃n:Int,v=.int .u8 n
 | [],_,_,v,hv=>by cases hv
 | a::l,b,hb,v,hv=>by
  unfold EP.bytesOf at hb
  split at hb<;>first | (cases hb;done) | skip
  ·rename_i hq;cases hq
  ·rename_i m l2 hq
   injection hq with q1 q2
   subst q1;subst q2
   obtain⟨_,hg⟩:=CM hb
   simp only[A8G]at hg
   obtain⟨b',hb',_⟩:=hg
   rcases A8I.1 hv with rfl | hv
   ·exact⟨_,rfl⟩
   ·exact PF hb' v hv
theorem Wp:∀ {l:List AV}{l':List Value}{b:List Nat},EP.bytesOf l=some b→Cb ρ l l'→∃u:List UInt8,u.map (fun(x:UInt8)=>x.toNat)=b∧∀ (j:Nat)(x:UInt8),u[j]? = some x→l'[j]? = some (Value.int .u8 x.toNat)
  | [],l',b,h,hl=>by
    cases hl
    simp[EP.bytesOf]at h
    subst h
    exact⟨[],rfl,by simp⟩
  | a::l,l',b,h,hl=>by
    cases hl with
    | cons ha hl =>
      unfold EP.bytesOf at h
      split at h<;>first | (cases h;done) | skip
      · rename_i hq;cases hq
      · rename_i n l2 hq
        injection hq with h1 h2
        subst h1;subst h2
        obtain⟨hb,hg⟩:=CM h
        clear h
        simp only[A8G]at hg
        obtain⟨b',hb',hg⟩:=hg
        injection hg with hg;subst hg
        cases ha
        obtain⟨u,e1,e2⟩:=Wp hb' hl
        have hn:n<256:=by simpa[A8Y]using hb
        have hto:(UInt8.ofNat n).toNat=n:=by simp;omega
        refine⟨UInt8.ofNat n::u,by simp[e1];omega,fun j x hj=>?_⟩
        cases j with
        | zero=>simp at hj;subst hj;simp[hto]
        | succ j=>simpa using e2 j x (by simpa using hj)
theorem VU(b n:Nat){c:Nat}(hc:c≠b):(w.freeze ⟨b,0,none⟩ n).heap[c]? = w.heap[c]? := by
 unfold World.freeze
 split
 ·rfl
 ·simp[Array.getElem?_modify,Ne.symm hc]
theorem XN(a:Addr)(n:Nat):(w.freeze a n).heap.size=w.heap.size:=by
 unfold World.freeze
 split
 ·rfl
 ·simp
theorem qL(h:DU P ρ s w){ty:TypeId}{tys:Array TypeId}{aS:List AV}{as':List Value}{v:AV}(hs:Uh P s tys.toList aS=some (v,s1))(has:Cb ρ aS as'):
    ∃v' w1 ρ1,(Builtin.unsafeString_ tys ty as'.toArray).run P w=.ok v' w1∧Cc ρ1 v v'∧DU P ρ1 s1 w1∧Fr ρ s w ρ1 s1 w1:=by
  unfold Uh at hs
  split at hs<;>first | (cases hs;done) | skip
  rename_i pt it a n hty
  have htys:tys=#[pt,it]:=Array.ext' hty
  subst htys
  cases has with
  | cons hx h2 =>
  cases h2 with
  | cons hn h3 =>
  cases h3
  cases hn
  split at hs
  · injection hs with hs
    injection hs with e1 e2
    subst e1;subst e2
    cases hx<;>exact⟨_,w,ρ,Go.Lib.run_unsafeString_none w _ _ _ _,.str rfl,h,Fr.refl _ _ _⟩
  · rename_i n
    unfold QA at hs
    split at hs<;>first | (cases hs;done) | skip
    rename_i i o
    split at hs<;>first | (cases hs;done) | skip
    rename_i e hu
    simp only[A8G]at hs
    obtain⟨r,hrow,hs⟩:=hs
    obtain⟨hb,hs⟩:=CM hs
    simp only[A8G]at hs
    obtain⟨z,hz,hs⟩:=hs
    obtain⟨hz1,hs⟩:=CM hs
    simp only[A8G]at hs
    obtain⟨l,hl,b,hbs,hs⟩:=hs
    injection hs with hs
    injection hs with e1 e2
    subst e1;subst e2
    simp only[A9W,A8Q]at hb
    obtain⟨⟨⟨⟨ho,hby⟩,ho0⟩,he⟩,hn⟩:=hb
    have ho0:=A8R ho0
    have he:=A8R he
    have hz1:=A8R hz1
    subst ho0;subst hz1
    cases hx with
    | ptr hr =>
    rename_i rb
    obtain⟨cs,h1,h2,h3⟩:=UM h hrow ho hby hr
    obtain⟨l',k1,k2,k3⟩:=FR h hr hl
    have hrn:n+1≤r.n:=by
      unfold Di at hl
      rw[hrow,Option.bind_some]at hl
      have:=(CM hl).1
      simpa[A8Q]using this
    obtain⟨u,u1,u2⟩:=Wp hbs k1
    have hlen:u.length=n+1:=by
      have c1:u.length=b.length:=by rw[← u1];simp
      have c2:∀ (l:List AV) (b:List Nat),EP.bytesOf l=some b→b.length=l.length:=by
        intro l
        induction l with
        | nil=>intro b hb;simp[EP.bytesOf]at hb;subst hb;rfl
        | cons a l ih =>
          intro b hb
          unfold EP.bytesOf at hb
          split at hb<;>first | (cases hb;done) | skip
          · rename_i hq;cases hq
          · rename_i m l2 hq
            injection hq with q1 q2
            subst q1;subst q2
            obtain⟨_,hg⟩:=CM hb
            simp only[A8G]at hg
            obtain⟨b',hb',hg⟩:=hg
            injection hg with hg;subst hg
            simp[ih b' hb']
      have:=c2 l b hbs
      have:=k1.length
      omega
    have hcell:∀j x,u[j]? = some x→w.cell? ((⟨rb.b,0,none⟩:Addr).add j)=some (.int .u8 x.toNat):=by
      intro j x hj
      have hjl:j<n+1:=by
        rcases A8N j (n+1)with h' | h'
        · exact h'
        · rw[A8W (by omega)]at hj;cases hj
      have hrow':=DW hrow
      have hok:Dr ρ w r rb:=h.obj i _ rb hrow' hr
      unfold Di at hl
      rw[hrow,Option.bind_some]at hl
      obtain⟨hle,hl⟩:=CM hl
      have hle:0+(n+1)≤r.n:=by simpa[A8Q]using hle
      have hg:=CT.take_get hl j hjl
      have hll:=CT.take_length hl
      rw[A8O (show j<l.length by omega)]at hg
      obtain⟨v',q1,q2⟩:=hok.cells (0+j) _ (by omega) hg
      obtain⟨v2,q3,q4⟩:=k1.get (k:=j) (A8O (by omega))
      have q5:=u2 j x hj
      rw[q5]at q3
      injection q3 with q3
      subst q3
      rw[FA,← show rb.off+(0+j)=0+j from by omega,q1]
      congr 1
      obtain⟨nn,hnn⟩:=PF hbs l[j] (List.getElem_mem _)
      rw[hnn]at q2 q4
      cases q4
      cases q2
      rfl
    have hrun:=Go.Lib.run_unsafeString_row (P:=P) w pt it ty e hu (Mq hz) rb.b cs.size (by simp[World.shape?,h1,he]) u (by intro hc;rw[hc]at hlen;cases hlen) (by omega) (by omega) hcell
    rw[hlen]at hrun
    have hoff:rb.off+0=0:=by omega
    refine⟨_,_,ρ,by rw[hoff];exact hrun,.str (by simpa using u1),?_⟩
    obtain⟨g1,g2,_,g3,_,g4⟩:=Ms h (DW hrow) hr ho
    have hok:Dr ρ w r rb:=h.obj i _ rb (DW hrow) hr
    obtain⟨q1,q2⟩:=g1.set (o1:=VI r) (w1:=w.freeze ⟨rb.b,0,none⟩ (n+1)) g3 hr (by simpa[wr]using ho) g4 rfl (XN _ _)
      (fun b hb=>VU _ _ hb) (by unfold World.freeze;split<;>rfl) (by unfold World.freeze;split<;>rfl) (by unfold World.freeze;split<;>rfl)
      (show Dr ρ _ { r with n:=0,spare:=true,mode:=.ro,par:=none,bytes:=false,glob:=none } rb from⟨fun k v hk=>absurd hk (Nat.not_lt_zero _),A8T _,hok.sz,(fun hc=>by cases hc),fun hc=>absurd rfl hc,(fun hc=>by cases hc),(fun g hg=>by cases hg),fun p hp=>by cases hp⟩)
    exact⟨q1,g2.trans q2⟩
end
section
variable{P:Program}{ρ ρ1 ρ2:DV}{s s1 s2:CO}{w w1 w2:World}
theorem Mo {f : FuncId} {fn : Func} {e : Array Value → Sem Value} (hf : P.funcs[f]? = some fn) (hn : fn.name ≠ "runtime.NumGoroutine") (hb : fn.body = none) (h1 : Extern.findNext fn = none) (h2 : Extern.find fn = some e) (args : Array Value) {v : Value}
    (hr:(e args).run P w=.ok v w1):(callFunc f args).run P w=.ok (.value v) w1:=by
  simp[callFunc,hf,hn,hb,h1,h2,hr,mark,Sem.run]
theorem PU : (Extern.allGenericRows.lookup "" = none ∧ Extern.allTypedRows.lookup "" = none ∧ Extern.allRows.lookup "" = none ∧ Extern.allNextRows.lookup "" = none) := ⟨by kernel_rfl, by kernel_rfl, by kernel_rfl, by kernel_rfl⟩
theorem XL {fn : Func} {n : String} {e : Array Value → Sem Value} (hn : fn.name = n) (ho : fn.origin = "") (h1 : Extern.allGenericRows.lookup n = none) (h2 : Extern.allTypedRows.lookup n = none) (h3 : Extern.allRows.lookup n = some e) (h4 : Extern.allNextRows.lookup n = none) :
    Extern.findNext fn=none∧Extern.find fn=some e:=by
  obtain⟨o1,o2,o3,o4⟩:=PU
  exact⟨by simp only[Extern.findNext,hn,ho,h4,o4];rfl,by simp only[Extern.find,hn,ho,h1,h2,h3];rfl⟩
theorem Zt {fn : Func} {n : String} {e : Array TypeId → Array TypeId → Array Value → Sem Value} (hn : fn.name = n) (ho : fn.origin = "") (h1 : Extern.allGenericRows.lookup n = none) (h2 : Extern.allTypedRows.lookup n = some e) (h4 : Extern.allNextRows.lookup n = none) :
    Extern.findNext fn=none∧Extern.find fn=some (e fn.params fn.resultTypes):=by
  obtain⟨o1,o2,o3,o4⟩:=PU
  exact⟨by simp only[Extern.findNext,hn,ho,h4,o4];rfl,by simp only[Extern.find,hn,ho,h1,h2];rfl⟩
def A3w(P:Program)(ρ:DV)(s:CO)(w:World)(r:Result Next)(v:AV)(s1:CO):Prop:=
 ∃v' w1 ρ1,r=.ok (.value v') w1∧Cc ρ1 v v'∧DU P ρ1 s1 w1∧Fr ρ s w ρ1 s1 w1
theorem DU.drew(h:DU P ρ s w):DU P ρ s w.drew∧Fr ρ s w ρ s w.drew:=
 ⟨⟨fun i o rb hg hr=>(h.obj i o rb hg hr).mono (DV.le_refl ρ) rfl,h.lt,h.sep,h.glb⟩,⟨DV.le_refl ρ,fun _ h _=>h,A8H _,A8H _,rfl,rfl,rfl,fun _ _ _=>rfl,fun _ h=>.inl h,fun _ _ _=>rfl,fun i rb=>SE i rb,fun _ o _ h _=>⟨o,h⟩⟩⟩
theorem aL(h:DU P ρ s w)(hf:ρ s.next=none){e t:TypeId}{aS:List AV}{as':List Value}{v:AV}(hu:P.underlying t=some (.slice e))(hz:DZ P e=some 1)(hs:Vt e s aS=some (v,s1))(has:Cb ρ aS as')(ps:Array TypeId):
  ∃v' w1 ρ1,(Extern.BytealgMakeNoZero.makeNoZero ps #[t] as'.toArray).run P w=.ok v' w1∧Cc ρ1 v v'∧DU P ρ1 s1 w1∧Fr ρ s w ρ1 s1 w1:=by
 unfold Vt at hs
 split at hs<;>first | (cases hs;done) | skip
 rename_i n
 obtain⟨hb,hs⟩:=CM hs
 injection hs with hs
 injection hs with e1 e2
 subst e1;subst e2
 have hn:n≤1099511627776:=by simpa[A8Q]using hb
 cases has with
 | cons hx h2 =>
 cases h2
 cases hx
 obtain⟨cs,hrun,hge,hle⟩:=Go.Lib.run_makeNoZero (P:=P) w ps t e hu n (by omega)
 obtain⟨i1,f1⟩:=h.drew
 obtain⟨i2,f2⟩:=i1.drew
 have hl:=Dc (rb:=⟨w.heap.size,0,cs.size,1⟩) hf
 have hblk:((w.drew.drew).alloc (.cells cs e)).heap[w.heap.size]? = some (.cells cs e (0,0)):=World.alloc_heap_new w.drew.drew _
 obtain⟨i3,f3⟩:=i2.new (o:=GV e 1 .leaf n none true) (o':=.cells cs e) (rb:=⟨w.heap.size,0,cs.size,1⟩) hf rfl
  (show Dr _ _ { elem:=e,sz:=1,n,c:=.leaf,spare:=true,mode:=.own,par:=none,bytes:=true } _ from
   ⟨fun k v _ hv=>(by rw[CT.get_leaf]at hv;cases hv),hge,rfl,(fun hh=>by cases hh),fun _=>⟨cs,hblk,by simp⟩,fun _=>rfl,(fun g hg=>by cases hg),fun p hp=>by cases hp⟩)
 exact⟨_,_,_,hrun,.sliceOpen (Cf _ _) (Nat.one_pos) hge (by simp) (by simp),i3,(f1.trans f2).trans f3⟩
theorem NA:∀ (x y:List UInt8),(bif G0 (HS x) (HS y)then (-1:Int)else bif Fb (HS x) (HS y)then 0 else 1)=Go.Lib.compareBytes x y
  | [],[]=>rfl
  | [],_::_=>rfl
  | _::_,[]=>rfl
  | a::x,b::y=>by
    have ih:=NA x y
    show(bif (bif Nat.blt a.toNat b.toNat then true else bif Nat.beq a.toNat b.toNat then G0 (HS x) (HS y)else false)then (-1:Int)else bif (bif Nat.beq a.toNat b.toNat then Fb (HS x) (HS y)else false)then 0 else 1)=if a<b then -1 else if b<a then 1 else Go.Lib.compareBytes x y
    by_cases h1:a<b
    · have:Nat.blt a.toNat b.toNat=true:=by rw[A8Y];exact h1
      rw[this,if_pos h1];rfl
    · have e1:Nat.blt a.toNat b.toNat=false:=by
        cases hh:Nat.blt a.toNat b.toNat with
        | false=>rfl
        | true=>rw[A8Y]at hh;exact absurd hh h1
      rw[e1,if_neg h1]
      by_cases h2:b<a
      · have h2' : b.toNat < a.toNat := h2
        have:Nat.beq a.toNat b.toNat=false:=CT.beq_no (by omega)
        rw[this,if_pos h2];rfl
      · have h1' : ¬ a.toNat < b.toNat := h1
        have h2':¬ b.toNat<a.toNat:=h2
        have:Nat.beq a.toNat b.toNat=true:=by rw[Nat.beq_eq];omega
        rw[this,if_neg h2]
        exact ih
theorem nK(h:DU P ρ s w)(hf:ρ s.next=none){f:FuncId}{e:CO→List AV→Option (AV×CO)}{aS:List AV}{v:AV}(he:nJ P f=some e)(hs:e s aS=some (v,s1)){as':List Value}(has:Cb ρ aS as'):
    A3w P ρ s w ((callFunc f as'.toArray).run P w) v s1:=by
  unfold nJ at he
  split at he<;>first | (cases he;done) | skip
  rename_i fn hfn
  split at he<;>first | (cases he;done) | skip
  rename_i hb
  cases ho : fn.origin == "" with
  | false=>rw[ho]at he;cases he
  | true =>
    rw[ho]at he
    have ho:=eq_of_beq ho
    simp only[cond_true]at he
    unfold XI at he
    cases h1 : fn.name == "internal/abi.NoEscape" with
    | true =>
      rw[h1]at he
      injection he with he
      subst he
      have hn:=eq_of_beq h1
      unfold Vs at hs
      split at hs<;>first | (cases hs;done) | skip
      injection hs with hs
      injection hs with e1 e2
      subst e1;subst e2
      cases has with
      | cons hx h2 =>
      cases h2
      obtain⟨k1,k2⟩:=XL hn ho (by kernel_rfl) (by kernel_rfl) (show _=some Extern.AbiNoEscape.same by kernel_rfl) (by kernel_rfl)
      exact⟨_,w,ρ,Mo hfn (by rw[hn];decide) hb k1 k2 _ (Go.Lib.run_noEscape w _),hx,h,Fr.refl _ _ _⟩
    | false =>
      rw[h1]at he
      simp only[cond_false]at he
      cases h2 : fn.name == "internal/bytealg.abigen_runtime_cmpstring" with
      | true =>
        rw[h2]at he
        injection he with he
        subst he
        have hn:=eq_of_beq h2
        unfold Py at hs
        split at hs<;>first | (cases hs;done) | skip
        injection hs with hs
        injection hs with e1 e2
        subst e1;subst e2
        cases has with
        | cons hx h3 =>
        cases h3 with
        | cons hy h4 =>
        cases h4
        cases hx with
        | str x1 =>
        cases hy with
        | str y1 =>
        rename_i sx sy
        obtain⟨k1,k2⟩:=XL hn ho (by kernel_rfl) (by kernel_rfl) (show _=some Extern.BytealgCompare.compare by kernel_rfl) (by kernel_rfl)
        refine⟨_,w,ρ,Mo hfn (by rw[hn];decide) hb k1 k2 _ (Go.Lib.run_compareString sx sy w),?_,h,Fr.refl _ _ _⟩
        subst x1;subst y1
        rw[show(bif G0 (sx.data.toList.map fun(b:UInt8)=>b.toNat) (sy.data.toList.map fun(b:UInt8)=>b.toNat)then (-1:Int)else bif Fb (sx.data.toList.map fun(b:UInt8)=>b.toNat) (sy.data.toList.map fun(b:UInt8)=>b.toNat)then 0 else 1)=_ from NA _ _]
        exact .int _ _
      | false =>
        rw[h2]at he
        simp only[cond_false]at he
        cases h3 : fn.name == "internal/bytealg.MakeNoZero" with
        | true =>
          rw[h3]at he
          have hn:=eq_of_beq h3
          simp only[cond_true]at he
          split at he<;>first | (cases he;done) | skip
          rename_i t ht
          split at he<;>first | (cases he;done) | skip
          rename_i el hu
          split at he<;>first | (cases he;done) | skip
          rename_i hz
          injection he with he
          subst he
          have hrt:fn.resultTypes=#[t]:=Array.ext' ht
          obtain⟨k1,k2⟩:=Zt hn ho (by kernel_rfl) (show _=some Extern.BytealgMakeNoZero.makeNoZero by kernel_rfl) (by kernel_rfl)
          obtain⟨v',w1,ρ1,g1,g2,g3,g4⟩:=aL h hf hu hz hs has fn.params
          rw[hrt]at k2
          exact⟨v',w1,ρ1,Mo hfn (by rw[hn];decide) hb k1 k2 _ g1,g2,g3,g4⟩
        | false=>rw[h3]at he;cases he
end
def Ot(sh:Sh)(aS:List AV)(s:CO):Option (AV×CO):=
 match sh with
 | .p1 f=>(match aS with | a::_=>HF s (f a) | []=>none)
 | .p2 f=>(match aS with | a::b::_=>HF s (f a b) | _=>none)
 | .p f=>HF s (f aS)
 | .r1 f=>(match aS with | a::_=>HF s (f s a) | []=>none)
 | .r f=>HF s (f s aS)
 | .mk f=>Xl s (f aS)
 | .e f=>f s aS
 | .call _ | .callv=>none
section
variable{P:Program}{ρ ρ1 ρ2:DV}{s s1 s2:CO}{w w1 w2:World}
theorem FK{x:Option AV}{v:AV}(h:HF s x=some (v,s1)):x=some v∧s1=s:=by
 cases x with
 | none=>cases h
 | some u=>injection h with h;grind
theorem aE{x:Option (Cg×Made)}{v:AV}(h:Xl s x=some (v,s1)):∃o m,x=some (o,m)∧v=m.val s.next∧s1=newObj s o:=by
 cases x with
 | none=>cases h
 | some u=>injection h with h;grind
theorem KS{x:Option CO}{v:AV}(h:DI x=some (v,s1)):x=some s1∧v=Cx:=by
 cases x with
 | none=>cases h
 | some u=>injection h with h;grind
theorem Mp{f:AV→Option AV}{a v:AV}(h:Ot (.p1 f) [a] s=some (v,s1)):f a=some v∧s1=s:=FK h
theorem ab{f:AV→AV→Option AV}{a b v:AV}(h:Ot (.p2 f) [a,b] s=some (v,s1)):f a b=some v∧s1=s:=FK h
theorem Se{f:List AV→Option AV}{aS:List AV}{v:AV}(h:Ot (.p f) aS s=some (v,s1)):f aS=some v∧s1=s:=FK h
theorem ac{f:CO→AV→Option AV}{a v:AV}(h:Ot (.r1 f) [a] s=some (v,s1)):f s a=some v∧s1=s:=FK h
theorem UX{f:CO→List AV→Option AV}{aS:List AV}{v:AV}(h:Ot (.r f) aS s=some (v,s1)):f s aS=some v∧s1=s:=FK h
theorem Ou{f:List AV→Option (Cg×Made)}{aS:List AV}{v:AV}(h:Ot (.mk f) aS s=some (v,s1)):∃o m,f aS=some (o,m)∧v=m.val s.next∧s1=newObj s o:=aE h
theorem pw{f:CO→List AV→Option (AV×CO)}{aS:List AV}{v:AV}(h:Ot (.e f) aS s=some (v,s1)):f s aS=some (v,s1):=h
def FN(P:Program)(ρ:DV)(s:CO)(w:World)(sem:Sem Next)(v:AV)(s':CO):Prop:=
 ∃v' w' ρ',(sem.run P w=.ok (.value v') w'∨(sem.run P w=.ok .skip w'∧v'=undef))∧Cc ρ' v v'∧DU P ρ' s' w'∧Fr ρ s w ρ' s' w'
theorem FN.pure(h:DU P ρ s w){sem:Sem Value}{v:AV}(hr:∃v',sem.run P w=.ok v' w∧Cc ρ v v'):FN P ρ s w (do Pure.pure (Next.value (← sem))) v s:=by
 obtain⟨v',h1,h2⟩:=hr
 exact⟨v',w,ρ,.inl (by simp[h1]),h2,h,Fr.refl _ _ _⟩
theorem FN.eff{sem:Sem Value}{v:AV}(hr:bM P ρ s w sem v s1):FN P ρ s w (do Pure.pure (Next.value (← sem))) v s1:=by
 obtain⟨v',w',ρ',h1,h2,h3,h4⟩:=hr
 exact⟨v',w',ρ',.inl (by simp[h1]),h2,h3,h4⟩
theorem FN.new{sem:Sem Value}{o:Cg}{m:Made}(hr:TH P ρ s w sem o m):FN P ρ s w (do Pure.pure (Next.value (← sem))) (m.val s.next) (newObj s o):=by
 obtain⟨v',w',ρ',h1,h2,h3,h4⟩:=hr
 exact⟨v',w',ρ',.inl (by simp[h1]),h2,h3,h4⟩
theorem FN.unit{sem:Sem Unit}(hr:∃w',sem.run P w=.ok () w'∧DU P ρ s1 w'∧Fr ρ s w ρ s1 w'):FN P ρ s w (do sem;Pure.pure Next.skip) Cx s1:=by
 obtain⟨w',h1,h2,h3⟩:=hr
 exact⟨undef,w',ρ,.inr ⟨by simp[h1],rfl⟩,Gk ρ,h2,h3⟩
theorem Cb.one{a:List AV}{x':Value}(h:Cb ρ a [x']):∃x,a=[x]∧Cc ρ x x':=by
 cases h with
 | cons h hs=>cases hs;exact⟨_,rfl,h⟩
theorem Cb.two{a:List AV}{x' y':Value}(h:Cb ρ a [x',y']):∃x y,a=[x,y]∧Cc ρ x x'∧Cc ρ y y':=by
 cases h with
 | cons h hs=>obtain⟨y,rfl,hy⟩:=hs.one;grind
theorem Cb.three{a:List AV}{x' y' z':Value}(h:Cb ρ a [x',y',z']):∃x y z,a=[x,y,z]∧Cc ρ x x'∧Cc ρ y y'∧Cc ρ z z':=by
 cases h with
 | cons h hs=>obtain⟨y,z,rfl,hy,hz⟩:=hs.two;grind
theorem Uj{ps:Array (Nat×Operand)}{ev:Operand→Value}{aS:List AV}(h:Cb ρ aS ((ps.toList.map (·.2)).map ev)):
  (zipIdx (ps.toList.map (·.1)) aS).map (·.1)=(ps.map fun(p:Nat×Operand)=>(p.1,ev p.2)).toList.map (·.1) ∧
   Cb ρ ((zipIdx (ps.toList.map (·.1)) aS).map (·.2)) ((ps.map fun(p:Nat×Operand)=>(p.1,ev p.2)).toList.map (·.2)):=by
 have hlen:=h.length
 simp_all[zipIdx,List.map_fst_zip,Function.comp_def,List.map_snd_zip]
theorem TB(hI:DU P ρ s w){t:TypeId}{x:Operand}{lo hi mx:Option Operand}{ev:Operand→Value}{aS:List AV}{v:AV}
    (h:Cb ρ aS (([x]++lo.toList++hi.toList++mx.toList).map ev)) (hs:DK P t lo.isSome hi.isSome mx.isSome s aS=some v):
    ∃v',(Instr.sliceAt t (ev x) (lo.map ev) (hi.map ev) (mx.map ev)).run P w=.ok v' w∧Cc ρ v v':=by
  cases lo with
  | none =>
    cases hi with
    | none =>
      cases mx with
      | none=>obtain⟨x,rfl,hx⟩:=Cb.one h;exact IN hI (show Fh P s t _ none none none=some v from hs) hx .none .none .none
      | some m=>obtain⟨x,y,rfl,hx,hy⟩:=Cb.two h;grind [DK]
    | some hh =>
      cases mx with
      | none=>obtain⟨x,y,rfl,hx,hy⟩:=Cb.two h;exact IN hI (show Fh P s t _ none (some y) none=some v from hs) hx .none (.some hy) .none
      | some m=>obtain⟨x,y,z,rfl,hx,hy,hz⟩:=Cb.three h;exact IN hI (show Fh P s t _ none (some y) (some z)=some v from hs) hx .none (.some hy) (.some hz)
  | some l =>
    cases hi with
    | none =>
      cases mx with
      | none=>obtain⟨x,y,rfl,hx,hy⟩:=Cb.two h;exact IN hI (show Fh P s t _ (some y) none none=some v from hs) hx (.some hy) .none .none
      | some m=>obtain⟨x,y,z,rfl,hx,hy,hz⟩:=Cb.three h;grind [DK]
    | some hh =>
      cases mx with
      | none=>obtain⟨x,y,z,rfl,hx,hy,hz⟩:=Cb.three h;exact IN hI (show Fh P s t _ (some y) (some z) none=some v from hs) hx (.some hy) (.some hz) .none
      | some m =>
        cases h with
        | cons hx h =>
          obtain⟨y,z,u,rfl,hy,hz,hu⟩:=Cb.three h
          exact IN hI (show Fh P s t _ (some y) (some z) (some u)=some v from hs) hx (.some hy) (.some hz) (.some hu)
theorem pV{op:BinOp}{t:TypeId}{x y:Operand}{neg:Bool}(h:pU P op t x y=some neg):op=bif neg then .neq else .eql:=by
 grind [pU]
theorem SN{i:Nat}(h:KJ s i=true):∃r,s.heap.get i=some (.row r)∧r.mode=.own∧r.par=none:=by
  unfold KJ at h
  split at h
  · rename_i r hr
    rw[A9W]at h
    refine⟨r,DW hr,?_,?_⟩
    · cases hm:r.mode with
      | own=>rfl
      | _=>rw[hm]at h;cases h.1
    simp_all
  · cases h
theorem gN(h:DU P ρ s w){neg:Bool}{t:TypeId}{x y v:AV}{x' y':Value}(hv:KL P s neg t x y=some v)(hx:Cc ρ x x')(hy:Cc ρ y y')(ox oy:Operand):
    ∃v',(do eqGuard (bif neg then .neq else .eql) t ox oy x' y';Go.binOp (bif neg then .neq else .eql) t x' y').run P w=.ok v' w∧Cc ρ v v':=by
  unfold KL at hv
  split at hv
  · rename_i i o j q
    obtain⟨hg,hv⟩:=CM hv
    rw[A9W,A9W]at hg
    obtain⟨⟨h1,h2⟩,h3⟩:=hg
    injection hv with hv
    subst hv
    obtain⟨ri,i1,i2,i3⟩:=SN h2
    obtain⟨rj,j1,j2,j3⟩:=SN h3
    unfold Z1 at h1
    split at h1<;>first | (cases h1;done) | skip
    rename_i te ht
    split at h1<;>first | (cases h1;done) | skip
    rename_i ji hji
    have hsz:ji.size≠0:=fun e=>by simp_all
    cases hx with
    | @ptr _ _ rbi hi =>
    cases hy with
    | @ptr _ _ rbj hj =>
    have oi:Gq P ρ w (.row ri) rbi:=h.obj i _ rbi i1 hi
    have oj:Gq P ρ w (.row rj) rbj:=h.obj j _ rbj j1 hj
    have oi:Dr ρ w ri rbi:=oi
    have oj:Dr ρ w rj rbj:=oj
    obtain⟨ci,hi1,_⟩:=oi.own (by grind)
    obtain⟨cj,hj1,_⟩:=oj.own (by grind)
    have core:∃b:Bool,b=(Nat.beq i j && Nat.beq o q)∧(Op.equal t (.pointer (some ⟨rbi.b,rbi.off+o,none⟩)) (.pointer (some ⟨rbj.b,rbj.off+q,none⟩))).run P w=.ok b w:=by
      by_cases e:i=j∧o=q
      · obtain⟨e1,e2⟩:=e
        subst e1 e2
        rw[hi]at hj
        injection hj with hj
        subst hj
        refine⟨true,by simp,?_⟩
        have hd:∀d:Nat,(Op.equalIn (d+1) t (.pointer (some ⟨rbi.b,rbi.off+o,none⟩)) (.pointer (some ⟨rbi.b,rbi.off+o,none⟩))).run P w=.ok true w:=fun d=>by
          simp[Op.equalIn,CW ht,sizeOf,typeInfo,hji,run_sameAddr_same]
        exact hd 9999
      · have hb:(Nat.beq i j && Nat.beq o q)=false:=by
          cases hb:(Nat.beq i j && Nat.beq o q)with
          | false=>rfl
          | true =>
            simp_all
        have hne:(⟨rbi.b,rbi.off+o,none⟩:Addr)≠⟨rbj.b,rbj.off+q,none⟩:=fun ea=>by
          injection ea with e1 e2
          by_cases eij:i=j
          · grind
          · have := (h.sep i j _ _ rbi rbj eij i1 j1 hi hj e1 (by show FL    rj.mode = true; rw [j2]; rfl)).1
            have this:rj.par=some i:=this
            grind
        refine⟨false,hb.symm,?_⟩
        have hd:∀d:Nat,(Op.equalIn (d+1) t (.pointer (some ⟨rbi.b,rbi.off+o,none⟩)) (.pointer (some ⟨rbj.b,rbj.off+q,none⟩))).run P w=.ok false w:=fun d=>by
          simp[Op.equalIn,CW ht,sizeOf,typeInfo,hji,hsz,run_sameAddr_other w hne hi1 hj1]
        exact hd 9999
    obtain⟨b,hb,hrun⟩:=core
    rw[← hb]
    refine⟨.bool (b != neg),?_,.bool _⟩
    rw[Sem.run_bind,IW (by rfl)]
    simp only[Result.andThen_ok]
    cases neg with
    | false =>
      simp_all[Go.binOp]
    | true =>
      simp_all[Go.binOp]
  · exact bZ hv hx hy ox oy
theorem A0l(h:DU P ρ s w)(hf:ρ s.next=none){o:Oper}{sh:Sh}{xs:List Operand}{ev:Operand→Value}(hev:∀f,ev (.func f)=.func (.func f) #[] #[]){aS:List AV}{v:AV}(hsh:De P o.op=some (sh,xs))(has:Cb ρ aS (xs.map ev))
    (hr:Ot sh aS s=some (v,s1)):FN P ρ s w (execOp ev o) v s1:=by
  cases ho:o.op<;>rw[ho]at hsh<;>first | (simp[De]at hsh;done) | skip
  case move x =>
    injection hsh with hsh;injection hsh with h1 h2;subst h1;subst h2
    obtain⟨a,rfl,ha⟩:=Cb.one has
    obtain⟨hv,rfl⟩:=Mp hr
    injection hv with hv;subst hv
    exact⟨_,w,ρ,.inl (by simp[execOp,ho]),ha,h,Fr.refl _ _ _⟩
  case assign x =>
    injection hsh with hsh;injection hsh with h1 h2;subst h1;subst h2
    obtain⟨a,rfl,ha⟩:=Cb.one has
    obtain⟨hv,rfl⟩:=Mp hr
    injection hv with hv;subst hv
    exact⟨_,w,ρ,.inl (by simp[execOp,ho]),ha,h,Fr.refl _ _ _⟩
  case pick c a b =>
    injection hsh with hsh;injection hsh with h1 h2;subst h1;subst h2
    obtain⟨x,y,z,rfl,hx,hy,hz⟩:=Cb.three has
    obtain⟨hv,rfl⟩:=Se hr
    simp only[Rw,Rx]at hv
    split at hv<;>first | (cases hv;done) | skip
    · injection hv with hv;subst hv
      generalize hc:ev c=c' at hx
      cases hx
      exact⟨_,w,ρ,.inl (by simp_all[execOp,asBool]),hy,h,Fr.refl _ _ _⟩
    · injection hv with hv;subst hv
      generalize hc:ev c=c' at hx
      cases hx
      exact⟨_,w,ρ,.inl (by simp_all[execOp,asBool]),hz,h,Fr.refl _ _ _⟩
  case build t ps =>
    injection hsh with hsh;injection hsh with h1 h2;subst h1;subst h2
    obtain⟨hv,rfl⟩:=Se hr
    obtain⟨z1,z2⟩:=Uj has
    simp only[execOp,ho]
    exact FN.pure h (eM hv z1 z2 w)
  case nilCheck x =>
    injection hsh with hsh;injection hsh with h1 h2;subst h1;subst h2
    obtain⟨a,rfl,ha⟩:=Cb.one has
    obtain⟨hv,rfl⟩:=Mp hr
    obtain⟨v',e1,e2⟩:=Vq (P:=P) (w:=w) hv ha ev o x ho rfl
    exact⟨v',w,ρ,.inl e1,e2,h,Fr.refl _ _ _⟩
  case binOp op t x y f =>
    simp only[De]at hsh
    split at hsh
    · rename_i neg hp
      injection hsh with hsh;injection hsh with h1 h2;subst h1;subst h2
      obtain⟨a,b,rfl,ha,hb⟩:=Cb.two has
      obtain⟨hv,rfl⟩:=UX hr
      simp only[execOp,ho]
      have hop:op=bif neg then .neq else .eql:=pV hp
      subst hop
      exact FN.pure h (gN h hv ha hb _ _)
    · injection hsh with hsh;injection hsh with h1 h2;subst h1;subst h2
      obtain⟨a,b,rfl,ha,hb⟩:=Cb.two has
      obtain⟨hv,rfl⟩:=ab hr
      simp only[execOp,ho]
      exact FN.pure h (bZ hv ha hb _ _)
  case unOp op t x =>
    injection hsh with hsh;injection hsh with h1 h2;subst h1;subst h2
    obtain⟨a,rfl,ha⟩:=Cb.one has
    obtain⟨hv,rfl⟩:=Mp hr
    simp only[execOp,ho]
    exact FN.pure h (A3g hv ha)
  case makeFunc fn first captured =>
    simp only[De]at hsh
    split at hsh<;>first | (cases hsh;done) | skip
    rename_i f
    injection hsh with hsh;injection hsh with h1 h2;subst h1;subst h2
    obtain⟨hv,rfl⟩:=Se hr
    injection hv with hv;subst hv
    rw[A8r]at has
    refine⟨.func (.func f) (first.map ev) (captured.map ev),w,ρ,.inl (by simp_all[execOp,Instr.makeFunc]),.func ?_ ?_,h,Fr.refl _ _ _⟩
    · have:=has.take first.size
      simp_all
    · have:=has.drop first.size
      simp_all
  case fieldAddr t x f =>
    injection hsh with hsh;injection hsh with h1 h2;subst h1;subst h2
    obtain⟨a,rfl,ha⟩:=Cb.one has
    obtain⟨hv,rfl⟩:=Mp hr
    simp only[execOp,ho]
    exact FN.pure h (Sr hv ha)
  case field t x f =>
    injection hsh with hsh;injection hsh with h1 h2;subst h1;subst h2
    obtain⟨a,rfl,ha⟩:=Cb.one has
    obtain⟨hv,rfl⟩:=Mp hr
    simp only[execOp,ho]
    exact FN.pure h (fJ hv ha)
  case indexAddr t x i =>
    injection hsh with hsh;injection hsh with h1 h2;subst h1;subst h2
    obtain⟨a,b,rfl,ha,hb⟩:=Cb.two has
    obtain⟨hv,rfl⟩:=ab hr
    simp only[execOp,ho]
    exact FN.pure h (St hv ha hb)
  case index t x i =>
    injection hsh with hsh;injection hsh with h1 h2;subst h1;subst h2
    obtain⟨a,b,rfl,ha,hb⟩:=Cb.two has
    obtain⟨hv,rfl⟩:=ab hr
    simp only[execOp,ho]
    exact FN.pure h (fP hv ha hb)
  case extract t i =>
    injection hsh with hsh;injection hsh with h1 h2;subst h1;subst h2
    obtain⟨a,rfl,ha⟩:=Cb.one has
    obtain⟨hv,rfl⟩:=Mp hr
    simp only[execOp,ho]
    exact FN.pure h (XJ hv ha)
  case load t a =>
    injection hsh with hsh;injection hsh with h1 h2;subst h1;subst h2
    obtain⟨a,rfl,ha⟩:=Cb.one has
    obtain⟨hv,rfl⟩:=ac hr
    grind [execOp,R8,FN.pure]
  case lookup t m k ok =>
    obtain⟨hmo,hsh⟩:=CM hsh
    injection hsh with hsh;injection hsh with h1 h2;subst h1;subst h2
    obtain⟨a,b,rfl,ha,hb⟩:=Cb.two has
    obtain⟨hv,rfl⟩:=UX hr
    simp only[execOp,ho]
    exact FN.pure h (aD h hmo hv ha hb)
  case convert src dst x =>
    injection hsh with hsh;injection hsh with h1 h2;subst h1;subst h2
    obtain⟨a,rfl,ha⟩:=Cb.one has
    obtain⟨hv,rfl⟩:=ac hr
    grind [execOp,FN.pure,mX]
  case slice t x lo hi mx =>
    injection hsh with hsh;injection hsh with h1 h2;subst h1;subst h2
    obtain⟨hv,rfl⟩:=UX hr
    grind [execOp,FN.pure,TB]
  case alloc e =>
    injection hsh with hsh;injection hsh with h1 h2;subst h1;subst h2
    cases has
    obtain⟨ob,m,hm,rfl,rfl⟩:=Ou hr
    grind [execOp,FN.new,eI]
  case box e x =>
    injection hsh with hsh;injection hsh with h1 h2;subst h1;subst h2
    obtain⟨a,rfl,ha⟩:=Cb.one has
    obtain⟨ob,m,hm,rfl,rfl⟩:=Ou hr
    grind [execOp,FN.new,qy]
  case buildSlice t len ps =>
    injection hsh with hsh;injection hsh with h1 h2;subst h1;subst h2
    obtain⟨ob,m,hm,rfl,rfl⟩:=Ou hr
    grind [Option.bind_eq_some_iff,Uj,execOp,FN.new,WB]
  case makeMap t r =>
    cases r with
    | some _=>simp[De]at hsh
    | none =>
      obtain⟨hmo,hsh⟩:=CM hsh
      injection hsh with hsh;injection hsh with h1 h2;subst h1;subst h2
      cases has
      obtain⟨ob,m,hm,rfl,rfl⟩:=Ou hr
      grind [Option.bind_eq_some_iff,execOp,FN.new,aG]
  case makeSlice t l c =>
    injection hsh with hsh;injection hsh with h1 h2;subst h1;subst h2
    obtain⟨a,b,rfl,ha,hb⟩:=Cb.two has
    obtain⟨ob,m,hm,rfl,rfl⟩:=Ou hr
    simp only[execOp,ho]
    exact FN.new (Sw h hf hm ha hb)
  case store t a x =>
    injection hsh with hsh;injection hsh with h1 h2;subst h1;subst h2
    obtain⟨a,b,rfl,ha,hb⟩:=Cb.two has
    obtain⟨hv,rfl⟩:=KS (pw hr)
    grind [execOp,FN.unit,gz]
  case mapUpdate t m k x =>
    obtain⟨hmo,hsh⟩:=CM hsh
    injection hsh with hsh;injection hsh with h1 h2;subst h1;subst h2
    obtain⟨a,b,c,rfl,ha,hb,hc⟩:=Cb.three has
    obtain⟨hv,rfl⟩:=KS (pw hr)
    grind [execOp,FN.unit,Mt]
  case insert t m k x =>
    obtain⟨hmo,hsh⟩:=CM hsh
    injection hsh with hsh;injection hsh with h1 h2;subst h1;subst h2
    obtain⟨a,b,c,rfl,ha,hb,hc⟩:=Cb.three has
    obtain⟨hv,rfl⟩:=KS (pw hr)
    grind [execOp,FN.unit,Mt]
  case call c =>
    obtain⟨callee,args,argTypes⟩:=c
    have hx:∀b,callee=.builtin b→execOp ev o=builtin b argTypes o.type (args.map fun | .const _=>true | _=>false) (args.map ev):=by
      intro b hb
      subst hb
      simp only[execOp,ho,resolve]
      rfl
    simp only[De]at hsh
    split at hsh
    · rename_i f
      split at hsh
      · rename_i e he
        injection hsh with hsh;injection hsh with h1 h2;subst h1;subst h2
        have hr:e s aS=some (v,s1):=hr
        have hx2:execOp ev o=(do let d ← Deferred.ofValue (ev (.func f)) (args.map ev);invoke d.target d.args):=by
          grind [execOp,resolve]
        obtain⟨v',w1,ρ1,g1,g2,g3,g4⟩:=nK h hf he hr has
        refine⟨v',w1,ρ1,.inl ?_,g2,g3,g4⟩
        have hl:(args.toList.map ev).toArray=args.map ev:=by grind
        grind [Deferred.ofValue,invoke]
      · injection hsh with hsh;injection hsh with h1 h2;subst h1;subst h2;cases hr
    · injection hsh with hsh;injection hsh with h1 h2;subst h1;subst h2;cases hr
    · cases hsh
    · rename_i b
      rw[hx b rfl]
      have hargs:∀l:List Value,args.toList.map ev=l→args.map ev=l.toArray:=by
        grind
      split at hsh<;>first | (cases hsh;done) | skip
      · split at hsh<;>first | (cases hsh;done) | skip
        rename_i t ht
        injection hsh with hsh;injection hsh with h1 h2;subst h1;subst h2
        obtain⟨hv,rfl⟩:=UX hr
        split at hv<;>first | (cases hv;done) | skip
        generalize hl:args.toList.map ev=l at has
        cases has with
        | cons hx1 hn =>
          cases hn
          rw[hargs _ hl]
          exact FN.pure h (tC h ht hv hx1)
      · split at hsh<;>first | (cases hsh;done) | skip
        rename_i t ht
        injection hsh with hsh;injection hsh with h1 h2;subst h1;subst h2
        obtain⟨hv,rfl⟩:=UX hr
        split at hv<;>first | (cases hv;done) | skip
        generalize hl:args.toList.map ev=l at has
        cases has with
        | cons hx1 hn =>
          cases hn
          rw[hargs _ hl]
          exact FN.pure h (rL h ht hv hx1)
      · injection hsh with hsh;injection hsh with h1 h2;subst h1;subst h2
        obtain⟨hv,rfl⟩:=Se hr
        split at hv<;>first | (cases hv;done) | skip
        generalize hl:args.toList.map ev=l at has
        cases has with
        | cons hx1 hn =>
          rw[hargs _ hl]
          refine FN.pure h ?_
          obtain⟨r',e1,e2⟩:=Ld (P:=P) (w:=w) hv hx1 hn
          grind [Builtin.min_]
      · injection hsh with hsh;injection hsh with h1 h2;subst h1;subst h2
        obtain⟨hv,rfl⟩:=Se hr
        split at hv<;>first | (cases hv;done) | skip
        generalize hl:args.toList.map ev=l at has
        cases has with
        | cons hx1 hn =>
          rw[hargs _ hl]
          refine FN.pure h ?_
          obtain⟨r',e1,e2⟩:=Ld (P:=P) (w:=w) hv hx1 hn
          grind [Builtin.max_]
      · injection hsh with hsh;injection hsh with h1 h2;subst h1;subst h2
        have hr:DE P s argTypes.toList aS=some (v,s1):=hr
        have hr0:=hr
        unfold DE at hr0
        split at hr0<;>first | (cases hr0;done) | skip
        rename_i st xt a len cap x hty _
        clear hr0
        generalize hl:args.toList.map ev=l at has
        obtain⟨a',x',rfl,hx1,hx2⟩:∃a' x',l=[a',x']∧Cc ρ _ a'∧Cc ρ _ x':=by
          cases has with
          | cons h1 h2=>cases h2 with | cons h2 h3=>cases h3;exact⟨_,_,rfl,h1,h2⟩
        rw[hargs _ hl,show argTypes=#[st,xt]from Array.ext' hty]
        rw[hty]at hr
        exact FN.eff (Yx h hf hr hx1 hx2)
      · injection hsh with hsh;injection hsh with h1 h2;subst h1;subst h2
        rw[hargs _ rfl]
        exact FN.eff (mY h hr (by simpa using has))
      · injection hsh with hsh;injection hsh with h1 h2;subst h1;subst h2
        obtain⟨hv,rfl⟩:=Se hr
        split at hv<;>first | (cases hv;done) | skip
        generalize hl:args.toList.map ev=l at has
        cases has with
        | cons hx1 hn =>
          cases hn
          rw[hargs _ hl]
          exact FN.pure h (me hv hx1)
      · injection hsh with hsh;injection hsh with h1 h2;subst h1;subst h2
        rw[hargs _ rfl]
        exact FN.eff (qL h hr (by simpa using has))
      · injection hsh with hsh;injection hsh with h1 h2;subst h1;subst h2
        rw[hargs _ rfl]
        exact FN.eff (eZ h hr (by simpa using has))
      · split at hsh<;>first | (cases hsh;done) | skip
        rename_i t ht
        obtain⟨hmo,hsh⟩:=CM hsh
        injection hsh with hsh;injection hsh with h1 h2;subst h1;subst h2
        have hr:GA (fun m k=>DI (Pz P s t m k)) aS=some (v,s1):=hr
        unfold GA at hr
        split at hr<;>first | (cases hr;done) | skip
        obtain⟨hv,rfl⟩:=KS hr
        generalize hl:args.toList.map ev=l at has
        obtain⟨a',x',rfl,hx1,hx2⟩:∃a' x',l=[a',x']∧Cc ρ _ a'∧Cc ρ _ x':=by
          cases has with
          | cons h1 h2=>cases h2 with | cons h2 h3=>cases h3;exact⟨_,_,rfl,h1,h2⟩
        rw[hargs _ hl]
        obtain⟨w1,e1,e2,e3⟩:=Zg (ty:=o.type) h hmo ht hv hx1 hx2
        exact FN.eff ⟨undef,w1,ρ,e1,Gk ρ,e2,e3⟩
end
def CO.sub(s s':CO):Prop:=∀i o,s.heap.get i=some o→s'.heap.get i=some o
section
variable{P:Program}{ρ ρ1 ρ2:DV}{s s1 s2:CO}{w w1 w2:World}
theorem CO.sub_new(h:s.heap.get s.next=none)(o:Cg):s.sub (newObj s o):=fun i ob e=>by
 rw[DC,if_neg]
 ·exact e
 ·intro q;subst q;rw[h]at e;cases e
theorem Gg(h:s.sub s2){i:Nat}{r:FP}(hr:rowAt s i=some r):rowAt s2 i=some r:=by
 have:=h i _ (DW hr)
 simp[rowAt,this]
theorem Me(h:s.sub s2){i o n:Nat}{l:List AV}(hr:Di s i o n=some l):Di s2 i o n=some l:=by
 unfold Di at hr ⊢
 simp only[A8G]at hr
 obtain⟨r,h1,h2⟩:=hr
 rw[Gg h h1]
 exact h2
theorem R7(h:s.sub s2){i o:Nat}{l:AV}(hr:FQ s i o=some l):FQ s2 i o=some l:=by
 unfold FQ at hr ⊢
 simp only[A8G]at hr
 obtain⟨r,h1,h2⟩:=hr
 rw[Gg h h1]
 exact h2
theorem aC(h:s.sub s2){t:TypeId}{a v:AV}(hr:CJ P s t a=some v):CJ P s2 t a=some v:=by
  unfold CJ at hr ⊢
  split at hr<;>first | (cases hr;done) | skip
  · simp only[A8G]at hr ⊢
    obtain⟨r,h0,g,h1,h2⟩:=hr
    refine⟨r,?_,g,h1,?_⟩
    · unfold VV at h0 ⊢
      simp only[A8G]at h0 ⊢
      obtain⟨r',k1,k2⟩:=h0
      exact⟨r',Gg h k1,k2⟩
    · cases g with
      | true =>
        simp only[A8G]at h2 ⊢
        obtain⟨n,h3,l,h4,h5⟩:=h2
        exact⟨n,h3,l,Me h h4,h5⟩
      | false=>exact R7 h h2
  simp only[A8G]at hr ⊢
  obtain⟨g,h1,h2⟩:=hr
  refine⟨g,h1,?_⟩
  cases g with
  | true =>
    simp only[A8G]at h2 ⊢
    obtain⟨n,h3,l,h4,h5⟩:=h2
    exact⟨n,h3,l,Me h h4,h5⟩
  | false=>exact R7 h h2
theorem Vl(h:s.sub s2){t:TypeId}{m k v:AV}{ok:Bool}(hr:Dy P s t m k ok=some v):Dy P s2 t m k ok=some v:=by
  unfold Dy at hr ⊢
  split at hr<;>first | (cases hr;done) | skip
  obtain⟨hk,hg⟩:=CM hr
  clear hr
  rw[hk]
  simp only[CU,cond_true]
  simp only[A8G]at hg ⊢
  obtain⟨es,h1,rest⟩:=hg
  refine⟨es,?_,rest⟩
  cases m with
  | map r =>
    cases r with
    | none=>exact h1
    | some i =>
      simp only at h1 ⊢
      unfold Gw at h1 ⊢
      split at h1<;>first | (cases h1;done) | skip
      all_goals
        rename_i hget
        rw[h i _ hget]
        exact h1
  | _=>cases h1
theorem Zc(h:s.sub s2){src dst:TypeId}{x v:AV}(hr:EP P s src dst x=some v):EP P s2 src dst x=some v:=by
  unfold EP at hr ⊢
  split at hr<;>first | (cases hr;done) | skip
  · exact hr
  · exact hr
  · split at hr <;> first | (cases hr; done) | skip
    split at hr
    · exact hr
    · simp only[A8G]at hr ⊢
      obtain⟨l,h1,rest⟩:=hr
      exact⟨l,Me h h1,rest⟩
  all_goals
    unfold EP.seenPtr at hr ⊢
    split at hr<;>first | (cases hr;done) | skip
    · exact hr
    · simp only[A8G]at hr ⊢
      obtain⟨r,h1,rest⟩:=hr
      exact⟨r,Gg h h1,rest⟩
theorem YU(h:s.sub s2){t:TypeId}{x v:AV}{lo hi mx:Option AV}(hr:Fh P s t x lo hi mx=some v):Fh P s2 t x lo hi mx=some v:=by
  unfold Fh at hr ⊢
  split at hr<;>first | (cases hr;done) | skip
  · exact hr
  · rename_i a len cap
    split at hr<;>first | (cases hr;done) | skip
    simp only[A8G]at hr ⊢
    obtain⟨n,h1,far,h2,rest⟩:=hr
    refine⟨n,h1,far,?_,rest⟩
    cases cap with
    | some c=>exact h2
    | none =>
      cases a with
      | none=>exact h2
      | some io =>
        obtain⟨i,o⟩:=io
        simp only[A8G]at h2 ⊢
        obtain⟨r,h3,h4⟩:=h2
        exact⟨r,Gg h h3,h4⟩
  · exact hr
theorem Pq(h:s.sub s2){t:TypeId}{lo hi mx:Bool}{aS:List AV}{v:AV}(hr:DK P t lo hi mx s aS=some v):DK P t lo hi mx s2 aS=some v:=by
 unfold DK at hr ⊢
 split at hr<;>first | (cases hr;done) | skip
 all_goals
  split at hr<;>first | (cases hr;done) | exact YU h hr
theorem fh(h:s.sub s2){t:TypeId}{x v:AV}(hr:D9 P s t x=some v):D9 P s2 t x=some v:=by
  unfold D9 at hr ⊢
  split at hr<;>first | (cases hr;done) | skip
  · exact hr
  · exact hr
  · exact hr
  · split at hr <;> first | (cases hr; done) | skip
    split at hr<;>first | (cases hr;done) | skip
    all_goals
      rename_i hget
      rw[h _ _ hget]
      exact hr
theorem eR(h:s.sub s2){t:TypeId}{x v:AV}(hr:eP P s t x=some v):eP P s2 t x=some v:=by
  unfold eP at hr ⊢
  split at hr<;>first | (cases hr;done) | skip
  split at hr<;>first | (cases hr;done) | skip
  split at hr
  · exact hr
  · split at hr <;> first | (cases hr; done) | skip
    simp only[A8G]at hr ⊢
    obtain⟨n,h1,r,h2,h3⟩:=hr
    exact⟨n,h1,r,Gg h h2,h3⟩
theorem PW(h:s.sub s2){i:Nat}(hr:KJ s i=true):KJ s2 i=true:=by
  unfold KJ at hr ⊢
  split at hr
  · rename_i r hrow
    rw[Gg h hrow]
    exact hr
  · cases hr
theorem X5(h:s.sub s2){neg:Bool}{t:TypeId}{x y v:AV}(hr:KL P s neg t x y=some v):KL P s2 neg t x y=some v:=by
 unfold KL at hr ⊢
 split at hr
 ·obtain⟨hg,hv⟩:=CM hr
  rw[A9W,A9W]at hg
  obtain⟨⟨h1,h2⟩,h3⟩:=hg
  rw[h1,PW h h2,PW h h3]
  exact hv
 ·exact hr
theorem X0{α:Type}{f g:AV→Option α}(hm:∀a v,f a=some v→g a=some v){aS:List AV}{v:α}(h:one f aS=some v):one g aS=some v:=by
 unfold one at h ⊢
 split at h<;>first | (cases h;done) | exact hm _ _ h
theorem Xz{α:Type}{f g:AV→AV→Option α}(hm:∀a b v,f a b=some v→g a b=some v){aS:List AV}{v:α}(h:GA f aS=some v):GA g aS=some v:=by
 unfold GA at h ⊢
 split at h<;>first | (cases h;done) | exact hm _ _ _ h
theorem gP(h:s.sub s2){o:Op}{sh:Sh}{xs:List Operand}{aS:List AV}{v:AV}(hsh:De P o=some (sh,xs))(hr:Ii sh aS s=some v):Ii sh aS s2=some v:=by
 cases o<;>first | (simp[De]at hsh;done) | skip
 case binOp op t x y f =>
  simp only[De]at hsh
  split at hsh
  ·injection hsh with hsh;injection hsh with h1 h2;subst h1;exact Xz (fun _ _ _=>X5 h) hr
  ·injection hsh with hsh;injection hsh with h1 h2;subst h1;cases hr
 case load t a=>injection hsh with hsh;injection hsh with h1 h2;subst h1;exact X0 (fun _ _=>aC h) hr
 case lookup t m k ok=>obtain⟨_,hsh⟩:=CM hsh;injection hsh with hsh;injection hsh with h1 h2;subst h1;exact Xz (fun _ _ _=>Vl h) hr
 case convert src dst x=>injection hsh with hsh;injection hsh with h1 h2;subst h1;exact X0 (fun _ _=>Zc h) hr
 case slice t x lo hi mx=>injection hsh with hsh;injection hsh with h1 h2;subst h1;exact Pq h hr
 case call c =>
  obtain⟨callee,args,argTypes⟩:=c
  simp only[De]at hsh
  split at hsh<;>first | (cases hsh;done) | (injection hsh with hsh;injection hsh with h1 h2;subst h1;cases hr;done) | (split at hsh<;>(injection hsh with hsh;injection hsh with h1 h2;subst h1;cases hr);done) | skip
  split at hsh<;>first | (cases hsh;done) | (injection hsh with hsh;injection hsh with h1 h2;subst h1;cases hr;done) | skip
  ·split at hsh<;>first | (cases hsh;done) | skip
   injection hsh with hsh;injection hsh with h1 h2;subst h1
   simp only[Ii]at hr ⊢
   split at hr<;>first | (cases hr;done) | exact fh h hr
  ·split at hsh<;>first | (cases hsh;done) | skip
   injection hsh with hsh;injection hsh with h1 h2;subst h1
   simp only[Ii]at hr ⊢
   split at hr<;>first | (cases hr;done) | exact eR h hr
  ·split at hsh<;>first | (cases hsh;done) | skip
   obtain⟨_,hsh⟩:=CM hsh
   injection hsh with hsh;injection hsh with h1 h2;subst h1;cases hr
 case makeMap t r =>
  cases r with
  | some _=>cases hsh
  | none=>obtain⟨_,hsh⟩:=CM hsh;injection hsh with hsh;injection hsh with h1 h2;subst h1;cases hr
 case mapUpdate t m k x=>obtain⟨_,hsh⟩:=CM hsh;injection hsh with hsh;injection hsh with h1 h2;subst h1;cases hr
 case insert t m k x=>obtain⟨_,hsh⟩:=CM hsh;injection hsh with hsh;injection hsh with h1 h2;subst h1;cases hr
 case makeFunc fn first captured =>
  cases fn with
  | func f=>injection hsh with hsh;injection hsh with h1 h2;subst h1;cases hr
  | _=>cases hsh
 all_goals (injection hsh with hsh;injection hsh with h1 h2;subst h1;cases hr)
end
end
end Go.Proofs.YtoaaclpjkelofaaGreatDoor.Am
