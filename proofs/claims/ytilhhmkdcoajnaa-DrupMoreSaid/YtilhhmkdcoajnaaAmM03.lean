/- append: the abstract machine's against the model's, whatever capacity is drawn; conditions: none. -/
import Derived.Test.YtilhhmkdcoajnaaAmM02
set_option linter.unusedVariables false
set_option linter.unusedSimpArgs false
namespace Go.Proofs.Ytilhhmkdcoajnaa.Am
open Go
noncomputable section
section
variable{P:Program}{ρ ρ1 ρ2:Bq}{s s1 s2:AE}{w w1 w2:World}
theorem By.drawn(h:By P ρ s w)(d:Nat):By P ρ s { w with drawn:=d }:=
 ⟨fun i o rb hi hr=>(h.obj i o rb hi hr).mono (Bq.le_refl ρ) rfl,h.lt,h.sep⟩
theorem Fr.drawn'(d:Nat):Fr ρ s w ρ s { w with drawn:=d }:=
 ⟨Bq.le_refl ρ,fun _ h _=>h,qg _,qg _,rfl,rfl,rfl,fun _ _ _=>rfl,fun _ h=>.inl h,fun _ _ _=>rfl⟩
theorem By.split  (h : By  P ρ s w) {i : Nat} {r rj : EX}   {rb rbj : RB} (hg : s.heap.get i = some (.row r)) (hr : ρ i = some rb) (hown : Fl    r.mode = true)
    (hsole:∀k ok rk,k≠i→s.heap.get k=some ok→ρ k=some rk→rk.b≠rb.b) (hf:ρ s.next=none)
    (hn2:s2.next=s.next) (hk2:∀k,k≠i→s2.heap.get k=s.heap.get k)
    (hi2:s2.heap.get i=none∨∃r',s2.heap.get i=some (.row r')∧Fl r'.mode=false∧F5 ρ w1 r' rb)
    (hj:F5 (C3 ρ s.next rbj) w1 rj rbj) (hbj:rbj.b=rb.b) (hpar:s2.heap.get i=none∨rj.par=some i)
    (hsz:w1.heap.size=w.heap.size) (hkeep:∀b,b≠rb.b→w1.heap[b]? = w.heap[b]?) (hos:w1.os=w.os) (htape:w1.tape=w.tape) (hout:w1.output=w.output):
    By P (C3 ρ s.next rbj) (newObj s2 (.row rj)) w1∧Fr ρ s w (C3 ρ s.next rbj) (newObj s2 (.row rj)) w1:=by
  have hle:=C1 (rb:=rbj) hf
  have hin:i≠s.next:=fun e=>by rw[e,hf]at hr;cases hr
  have hget:∀k,(newObj s2 (.row rj)).heap.get k=if k=s.next then some (.row rj)else s2.heap.get k:=fun k=>by rw[Cb,hn2]
  refine⟨⟨?_,?_,?_⟩,?_⟩
  · intro k ok rk hk hrk
    rw[hget]at hk
    by_cases e:k=s.next
    · subst e
      rw[if_pos rfl]at hk
      injection hk with hk
      rw[A8]at hrk
      injection hrk with hrk
      subst hk;subst hrk
      exact hj
    · rw [if_neg e] at hk
      rw[A4 rbj e]at hrk
      by_cases ei:k=i
      · subst ei
        rw[hr]at hrk
        injection hrk with hrk
        subst hrk
        rcases hi2 with h0 | ⟨r',h1,_,h2⟩
        · rw[h0]at hk;cases hk
        · rw[h1]at hk
          injection hk with hk
          subst hk
          exact Il.mono (o:=.row r') (w:=w1) (w1:=w1) h2 hle rfl
      · rw[hk2 k ei]at hk
        exact(h.obj k ok rk hk hrk).mono hle (hkeep _ (hsole k ok rk ei hk hrk))
  · intro k rk hrk
    by_cases e:k=s.next
    · subst e
      rw[A8]at hrk
      injection hrk with hrk
      subst hrk
      rw[hbj,hsz]
      exact h.lt i rb hr
    · rw [A4           rbj e] at hrk
      rw[hsz]
      exact h.lt k rk hrk
  · intro a c oa oc ra rc hne ha hc hra hrc hbb hwc
    rw[hget]at ha hc
    by_cases ea:a=s.next
    · subst ea
      rw[if_pos rfl]at ha
      rw[A8]at hra
      injection hra with hra
      subst hra
      have ec:c≠s.next:=fun e=>hne e.symm
      rw[if_neg ec]at hc
      rw[A4 rbj ec]at hrc
      by_cases eci:c=i
      · subst eci
        rcases hi2 with h0 | ⟨r',h1,h2,_⟩
        · rw[h0]at hc;cases hc
        · rw[h1]at hc
          injection hc with hc
          subst hc
          simp[wr,h2]at hwc
      · rw[hk2 c eci]at hc
        exact absurd (hbb.symm.trans hbj) (hsole c oc rc eci hc hrc)
    · rw [if_neg ea] at ha
      rw[A4 rbj ea]at hra
      by_cases ec:c=s.next
      · subst ec
        rw[if_pos rfl]at hc
        injection hc with hc
        subst hc
        rw[A8]at hrc
        injection hrc with hrc
        subst hrc
        by_cases eai:a=i
        · subst eai
          rcases hi2 with h0 | ⟨r',h1,h2,_⟩
          · rw[h0]at ha;cases ha
          · rw[h1]at ha
            injection ha with ha
            subst ha
            rcases hpar with hp | hp
            · rw[h1]at hp;cases hp
            · exact⟨hp,by simpa[wr]using h2⟩
        · rw[hk2 a eai]at ha
          exact absurd (hbb.trans hbj) (hsole a oa ra eai ha hra)
      · rw [if_neg ec] at hc
        rw[A4 rbj ec]at hrc
        by_cases eci:c=i
        · subst eci
          rcases hi2 with h0 | ⟨r',h1,h2,_⟩
          · rw[h0]at hc;cases hc
          · rw[h1]at hc
            injection hc with hc
            subst hc
            simp[wr,h2]at hwc
        · rw[hk2 c eci]at hc
          by_cases eai:a=i
          · subst eai
            rw[hr]at hra
            injection hra with hra
            subst hra
            exact absurd hbb.symm (hsole c oc rc eci hc hrc)
          · rw[hk2 a eai]at ha
            exact h.sep a c oa oc ra rc hne ha hc hra hrc hbb hwc
  · refine ⟨hle, ?_, by simp [newObj, hn2], by omega, hos, htape, hout, ?_, ?_, ?_⟩
    · intro k hk hrk
      have:k≠s.next:=by simp[newObj,hn2]at hrk;omega
      rw[A4 rbj this];exact hk
    · intro b _ hno
      exact hkeep b (fun e=>hno ⟨i,_,rb,hg,by simpa[wr]using hown,hr,e.symm⟩)
    · rintro b ⟨k, ok, rk, hk, hwk, hrk, rfl⟩
      rw[hget]at hk
      by_cases e:k=s.next
      · subst e
        rw[A8]at hrk
        injection hrk with hrk
        subst hrk
        exact .inl ⟨i,_,rb,hg,by simpa[wr]using hown,hr,hbj.symm⟩
      · rw [if_neg e] at hk
        rw[A4 rbj e]at hrk
        by_cases ei:k=i
        · subst ei
          exact .inl ⟨k,_,rk,hg,by simpa[wr]using hown,hrk,rfl⟩
        · rw[hk2 k ei]at hk
          exact .inl ⟨k,ok,rk,hk,hwk,hrk,rfl⟩
    · intro k hrk hk
      rw[hget,if_neg (by simp only[newObj]at hk;omega)]
      have:k≠i:=fun e=>by rw[e,hr]at hrk;cases hrk
      exact hk2 k this
theorem NY        (newLen : Nat) : ∀ (k c : Nat), c < newLen → Builtin.growBy newLen k c ≤ 2 * newLen + 192
  | 0,c,h=>by simp only[Builtin.growBy];omega
  | k + 1, c, h => by
    simp only[Builtin.growBy]
    split
    · omega
    · by_cases h2 : c + (c + 768) / 4 < newLen
      · exact NY newLen k _ h2
      · have:Builtin.growBy newLen k (c+(c+768) / 4)=c+(c+768) / 4:=by
          cases k with
          | zero=>rfl
          | succ k=>simp only[Builtin.growBy];rw[if_pos (by omega)]
        rw[this];omega
theorem To{need cap:Nat}(h:cap<need):Builtin.nextslicecap need cap≤2 * need+192:=by
  unfold Builtin.nextslicecap
  split
  · omega
  · split
    · omega
    · exact NY need 4 cap h
theorem bU(d:TypeDesc)(h:∀k,d≠.int k):(match d with | .int _=>true | _=>false)=false:=by
 cases d<;>first | rfl | exact absurd rfl (h _)
theorem QF{e:TypeId}{n:Nat}(h:Cg P e=some n):∃i,(∀w,(typeInfo e).run P w=.ok i w)∧i.bytes=n:=by
 unfold Cg at h
 split at h
 ·injection h with h;rename_i i hi;exact⟨i,fun w=>by simp[typeInfo,hi],h⟩
 ·cases h
structure UT(P:Program)(e xt:TypeId)(size n:Nat)(x':Value)(new:Array Value)(w:World):Prop where
 ok:(∃d,P.underlying xt=some d∧(∀k,d≠.int k)∧(Builtin.lenOf x').run P w=.ok n w∧∀d,(Builtin.firstCells size n x').run P { w with drawn:=d }=.ok new { w with drawn:=d }) ∨
  (∃k kd,P.underlying xt=some (.int k)∧x'=.int kd (n:Int)∧n≤1099511627776∧n≠0∧∃z,(∀w,(zeroValue e).run P w=.ok z w)∧z.cells.size=size∧new=Builtin.zeroCells z.cells n)
theorem Da{st xt ty e:TypeId}{size by_ n sLen sCap:Nat}{base:Option Addr}{x':Value}{new:Array Value}
    (hu:P.underlying st=some (.slice e)) (hs:BD P e=some size) (hby:Cg P e=some by_) (hsz:size≠0) (hb:(sLen+n) * by_≤1099511627776)
    (hx:UT P e xt size n x' new w) (hle:sLen+n≤sCap)
    (hst:match base with | some a=>(storeCells (a.add (sLen * size)) new.toList).run P w=.ok () w1 | none=>w1=w):
    (Builtin.append_ #[st,xt] ty #[.slice base sLen sCap,x']).run P w=.ok (.slice base (sLen+n) sCap) w1:=by
  rcases hx.ok with⟨d,hd,hnd,hn,hfc⟩ | ⟨k,kd,hk,rfl,hn,hn0,z,hz,hzs,hnew⟩
  · have hm := bU     d hnd
    have hfc:=hfc w.drawn
    cases base with
    | none =>
      simp only at hst
      subst hst
      simp[Builtin.append_,AO hu,BL hs,AO hd,hm,hn,hle,hfc]
    | some a =>
      simp only at hst
      simp[Builtin.append_,AO hu,BL hs,AO hd,hm,hn,hle,hfc,hst]
  · obtain⟨i,hi,hi2⟩:=QF hby
    have hw:IntKind.i64.wrap (n:Int)=(n:Int):=K8 (k:=.i64) (n:=Int.ofNat n) (by simp[CC,qu];omega)
    have h0:¬ ((n:Int)<0):=by omega
    have hm1:n * by_≤1099511627776:=qs (rq _ (Nat.le_add_left _ _)) hb
    have h1:¬ ((281474976710656:Int)<(n:Int) * (i.bytes:Int)):=by
      rw[hi2]
      have:((n * by_:Nat):Int)≤1099511627776:=by omega
      have e:((n * by_:Nat):Int)=(n:Int) * (by_:Int):=by simp
      omega
    cases base with
    | none =>
      simp only at hst
      subst hst
      simp[Builtin.append_,AO hu,BL hs,AO hk,asInt,asIntOf,hw,hi,h0,h1,hle,hn0,hsz,hz]
    | some a =>
      simp only at hst
      rw[hnew]at hst
      have hns:n * size≠0:=Nat.mul_ne_zero hn0 hsz
      simp[Builtin.append_,AO hu,BL hs,AO hk,asInt,asIntOf,hw,hi,h0,h1,hle,hn0,hsz,hns,hz,hst]
theorem run_append_grow{st xt ty e:TypeId}{size by_ n sLen sCap:Nat}{base:Option Addr}{x':Value}{old new:Array Value}{z:Value}
    (hu:P.underlying st=some (.slice e)) (hs:BD P e=some size) (hby:Cg P e=some by_) (hsz:size≠0)
    (hb:(sLen+n) * by_≤1099511627776) (hb2:sLen+n≤1099511627776)
    (hx:UT P e xt size n x' new w) (hgt:sCap<sLen+n) (hz:∀w,(zeroValue e).run P w=.ok z w)
    (hold:∀d,(Builtin.firstCells size sLen (.slice base sLen sCap)).run P { w with drawn:=d }=.ok old { w with drawn:=d }):
    ∃newCap,sLen+n≤newCap∧(Builtin.append_ #[st,xt] ty #[.slice base sLen sCap,x']).run P w =
      .ok (.slice (some ⟨w.heap.size,0,none⟩) (sLen+n) newCap) (World.alloc { w with drawn:=w.drawn+1 } (.cells (old++new++Builtin.zeroCells z.cells (newCap - (sLen+n))) e)):=by
  obtain⟨i,hi,hi2⟩:=QF hby
  have hcap:=To hgt
  have hnc:¬ (281474976710656:Nat)<Builtin.nextslicecap (sLen+n) sCap * i.bytes:=by
    rw[hi2]
    have h1:Builtin.nextslicecap (sLen+n) sCap * by_≤(2 * (sLen+n)+192) * by_:=rq _ hcap
    have h2:by_≤(sLen+n) * by_:=Nat.le_mul_of_pos_left _ (by omega)
    have h3:(2 * (sLen+n)+192) * by_=2 * ((sLen+n) * by_)+192 * by_:=by rw[rO,Nat.mul_assoc]
    omega
  have hle:¬ sLen+n≤sCap:=by omega
  have hmax:¬ ((9223372036854775807:Int)<((sLen:Int)+(n:Int))):=by omega
  let q:Question:=.appendCap (sLen+n) sCap e
  let newCap:=q.cut (w.tape w.drawn q)
  have hq:sLen+n≤newCap:=by simp[newCap,q,Question.cut]
  refine⟨newCap,hq,?_⟩
  have hf:q.forced=false:=rfl
  have hold:(Builtin.firstCells size sLen (.slice base sLen sCap)).run P w.drew=.ok old w.drew:=hold (w.drawn+1)
  rcases hx.ok with⟨d,hd,hnd,hn,hfc⟩ | ⟨k,kd,hk,rfl,hn,hn0,z',hz',hzs,hnew⟩
  · have hm := bU     d hnd
    have hfc:(Builtin.firstCells size n x').run P w.drew=.ok new w.drew:=hfc (w.drawn+1)
    simp[Builtin.append_,AO hu,BL hs,AO hd,hle,hm,hn,hi,hmax,hnc,hold,hfc,hz,newRow,IntKind.max,IntKind.signed,IntKind.bits]
    simp[newCap,q,hf]
  · have hw : IntKind.i64.wrap (n : Int) = (n : Int) := K8      (k := .i64) (n := Int.ofNat n) (by simp [CC,      qu];         omega)
    have h0:¬ ((n:Int)<0):=by omega
    have hm1:n * by_≤1099511627776:=qs (rq _ (Nat.le_add_left _ _)) hb
    have h1:¬ ((281474976710656:Int)<(n:Int) * (i.bytes:Int)):=by
      rw[hi2]
      have:((n * by_:Nat):Int)≤1099511627776:=by omega
      have e:((n * by_:Nat):Int)=(n:Int) * (by_:Int):=by simp
      omega
    have hzz:z'=z:=by
      have:=hz' w
      rw[hz w]at this
      injection this with this
      exact this.symm
    subst hzz
    have hns:n * size≠0:=Nat.mul_ne_zero hn0 hsz
    simp[Builtin.append_,AO hu,BL hs,AO hk,asInt,asIntOf,hw,hi,h0,h1,hle,hn0,hsz,hns,hz,hmax,hnc,hold,newRow,IntKind.max,IntKind.signed,IntKind.bits]
    simp[newCap,q,hf,hnew]
theorem Kh          (ρ : Bq)  {e : TypeId} {size : Nat} (h : CB     P e size = true) : ∃ z z', CF    P e = some z ∧ Ad   ρ z z' ∧ (∀ w, (zeroValue e).run P w = .ok z' w) ∧ z'.cells.size = size ∧ z.cells.length = size := by
  unfold CB at h
  split at h
  · rename_i z hz
    have hl:=BB h
    have key:∃z',(∀w,(zeroValue e).run P w=.ok z' w)∧Ad ρ z z':=by
      unfold CF at hz
      split at hz
      · split at hz
        · rename_i i hi _ v hv
          exact⟨v,fun w=>by simp[zeroValue,typeInfo,hi,hv],CD ρ hz⟩
        · cases hz
      · cases hz
    obtain⟨z',h1,h2⟩:=key
    have:=h2.cells.length
    exact⟨z,z',hz,h2,h1,by simp at this;omega,hl⟩
  · cases h
theorem IF{z:AV}{z':Value}{size:Nat}(hz:Ad ρ z z')(hl:z.cells.length=size)(hs:z'.cells.size=size)(n:Nat):
  AX ρ (Ht z.cells n) (Builtin.zeroCells z'.cells n).toList:=by
 have:=O8 (c:=n) hz hl
 unfold Builtin.zeroCells
 rw[hs]
 rw[hs]at this
 exact this
theorem RK(h:By P ρ s w){e xt:TypeId}{size:Nat}{x:AV}{x':Value}{src:Nat×List AV}
  (hg:(match x with | .int ..=>ME P xt | _=>BC P xt)=true) (hs:Bg P s e size x=some src) (hx:Ad ρ x x'):
  ∃new:Array Value,AX ρ src.2 new.toList∧UT P e xt size src.1 x' new w∧new.size=src.1 * size:=by
 have hslice:(∃d,P.underlying xt=some d∧∀k,d≠.int k)∨∃k n,x=.int k n:=by
  cases x with
  | int k n=>exact .inr ⟨k,n,rfl⟩
  | _ =>
   refine .inl ?_
   simp only[BC]at hg
   split at hg
   ·rename_i hd;exact⟨_,hd,by simp⟩
   ·rename_i hd;exact⟨_,hd,by simp⟩
   ·cases hg
 unfold Bg at hs
 split at hs
 ·rename_i kd n
  obtain⟨hb,hs⟩:=AI hs
  simp only[Bool.and_eq_true,qu,rJ]at hb
  simp only[qh]at hs
  obtain⟨z,hz,hs⟩:=hs
  obtain⟨hl,hs⟩:=AI hs
  injection hs with hs
  subst hs
  obtain⟨z0,z',hz0,h1,h2,h3,h4⟩:=Kh ρ (P:=P) (e:=e) (size:=size) (by simp[CB,hz,hl])
  rw[hz]at hz0
  injection hz0 with hz0
  subst hz0
  cases hx
  have hk:∃k,P.underlying xt=some (.int k):=by
   simp only[ME]at hg
   split at hg
   ·rename_i k hk;exact⟨k,hk⟩
   ·cases hg
  obtain⟨k,hk⟩:=hk
  exact⟨Builtin.zeroCells z'.cells n,IF h1 h4 h3 n,⟨.inr ⟨k,kd,hk,rfl,hb.1,by omega,z',h2,h3,rfl⟩⟩,by simp[Builtin.zeroCells,h3]⟩
 ·injection hs with hs
  subst hs
  obtain⟨d,hd,hnd⟩:=hslice.resolve_right (by simp)
  cases hx
  exact⟨#[],.nil,⟨.inl ⟨d,hd,hnd,rfl,fun _=>rfl⟩⟩,by simp⟩
 ·rename_i i o n cap
  simp only[qh]at hs
  obtain⟨l,hl,hs⟩:=hs
  injection hs with hs
  subst hs
  obtain⟨d,hd,hnd⟩:=hslice.resolve_right (by simp)
  unfold fJ at hl
  cases hn0:Nat.beq n 0 with
  | true =>
   rw[hn0]at hl
   injection hl with hl
   subst hl
   have:=BB hn0
   subst this
   cases hx<;>exact⟨#[],by simpa using AX.nil,⟨.inl ⟨d,hd,hnd,rfl,fun d=>by simp[Builtin.firstCells,loadCells,loadCellsFrom]⟩⟩,by simp⟩
  | false =>
  rw[hn0]at hl
  simp only[cond_false]at hl
  cases hx with
  | slice hr hlc =>
   obtain⟨l',h1,h2,h3⟩:=Ec h hr hl
   exact⟨l'.toArray,by simpa using h1,⟨.inl ⟨d,hd,hnd,rfl,fun d=>h3 _ rfl⟩⟩,by simpa using h2⟩
  | sliceOpen hr hsz hlc h1 h2 =>
   obtain⟨l',h1,h2,h3⟩:=Ec h hr hl
   exact⟨l'.toArray,by simpa using h1,⟨.inl ⟨d,hd,hnd,rfl,fun d=>h3 _ rfl⟩⟩,by simpa using h2⟩
  | sliceEnd hr hsz h1 h2 =>
   obtain⟨l',h1,h2,h3⟩:=Ec h hr hl
   have hl0:l'=[]:=by simpa using h2
   subst hl0
   cases h1
   exact⟨#[],by simpa using AX.nil,⟨.inl ⟨d,hd,hnd,rfl,fun d=>by simp[Builtin.firstCells,loadCells,loadCellsFrom]⟩⟩,by simp⟩
 ·rename_i l
  obtain⟨hb,hs⟩:=AI hs
  injection hs with hs
  subst hs
  obtain⟨d,hd,hnd⟩:=hslice.resolve_right (by simp)
  cases hx with
  | str hl =>
   rename_i b
   subst hl
   have hsz1:=BB hb
   have hlen:(List.map (fun(b:UInt8)=>b.toNat) b.data.toList).length=b.size:=by simp
   refine⟨(b.extract 0 b.size).data.map fun b=>.int .u8 b.toNat,?_,⟨.inl ⟨d,hd,hnd,by simp[Builtin.lenOf,hlen],fun d=>by simp[Builtin.firstCells,hlen]⟩⟩,by simp[hsz1]⟩
   have he:(b.extract 0 b.size).data.toList=b.data.toList:=by simp
   rw[Array.toList_map,he]
   generalize b.data.toList=l
   induction l with
   | nil=>exact .nil
   | cons x l ih=>exact .cons (.int _ _) ih
 ·cases hs
def UO(P:Program)(ρ:Bq)(s:AE)(w:World)(sem:Sem Value)(v:AV)(s':AE):Prop:=
 ∃v' w' ρ',sem.run P w=.ok v' w'∧Ad ρ' v v'∧By P ρ' s' w'∧Fr ρ s w ρ' s' w'
theorem AX.get'{l:List AV}{cs:Array Value}(h:AX ρ l cs.toList){k:Nat}{v:AV}(hk:l[k]? = some v):∃v',cs[k]? = some v'∧Ad ρ v v':=by
 obtain⟨v',h1,h2⟩:=h.get hk
 exact⟨v',by rw[← Array.getElem?_toList];exact h1,h2⟩
theorem Gt(h:By P ρ s w)(hf:ρ s.next=none){e:TypeId}{size n newCap:Nat}{cells:List AV}{v:AV}{cs rest:Array Value}(hs:Bf P s e size n cells=some (v,s1))
  (hc:AX ρ cells cs.toList) (hcs:cs.size=n * size) (hsz:0<size) (hcap:n≤newCap) (hrest:rest.size=(newCap - n) * size):
  ∃ρ',Ad ρ' v (.slice (some ⟨w.heap.size,0,none⟩) n newCap)∧By P ρ' s1 (World.alloc w (.cells (cs++rest) e))∧Fr ρ s w ρ' s1 (World.alloc w (.cells (cs++rest) e)):=by
 unfold Bf at hs
 obtain⟨hz,hs⟩:=AI hs
 injection hs with hs
 injection hs with hs1 hs2
 subst hs1;subst hs2
 have hlen:cells.length=n * size:=by have:=hc.length;simp at this;omega
 have htot:newCap * size=n * size+(newCap - n) * size:=by rw[← rO];congr 1;omega
 have hle:=C1 (rb:=⟨w.heap.size,0,newCap * size,size⟩) hf
 have hblk:(World.alloc w (.cells (cs++rest) e)).heap[w.heap.size]? = some (.cells (cs++rest) e (0,0)):=World.alloc_heap_new w _
 obtain⟨h1,h2⟩:=h.new (o:=CL e size (Ak.fill .leaf 0 cells) cells.length none) (o':=.cells (cs++rest) e) (rb:=⟨w.heap.size,0,newCap * size,size⟩) hf rfl (by
  refine⟨?_,by simp only;omega,rfl,(fun hh=>by cases hh),fun _=>⟨cs++rest,e,hblk,by simp[hcs,hrest];omega⟩,fun p hp=>by cases hp⟩
  intro k v hk hv
  simp only[Ak.get_fill,qm,qq,true_and,Nat.sub_zero]at hv
  simp only at hk
  rw[if_pos hk]at hv
  obtain⟨v',g1,g2⟩:=hc.get' hv
  refine⟨v',?_,g2.mono hle⟩
  simp only[World.cell?,hblk,qq]
  have hkc:k<cs.size:=by omega
  simp only[Option.isSome_none,Bool.false_eq_true,if_false]
  rw[Array.getElem?_append_left hkc]
  exact g1)
 refine⟨_,Ad.sliceOpen (A8 _ _) hsz hcap (by simp) ?_,h1,h2⟩
 simp only[qq]
 exact Nat.mul_lt_mul_of_pos_right (by omega) hsz
theorem Mp         (h : By  P ρ s w) {i : Nat} {r : EX}   {rb : RB} (hg : s.heap.get i = some (.row r)) (hr : ρ i = some rb) (hown : Fl    r.mode = true) :
    By P ρ (A1 s i r) w∧Fr ρ s w ρ (A1 s i r) w∧(A1 s i r).next=s.next∧(A1 s i r).heap.get i=some (.row r) ∧
    (∀k ok rk,k≠i→(A1 s i r).heap.get k=some ok→ρ k=some rk→rk.b≠rb.b)∧(∀p,r.par=some p→p≠i→(A1 s i r).heap.get p=none):=by
  have hok:F5 ρ w r rb:=h.obj i _ rb hg hr
  unfold A1
  split
  · rename_i hp
    refine⟨h,Fr.refl _ _ _,rfl,hg,fun k ok rk hne hk hrk e=>?_,fun p hp'=>by rw[hp]at hp';cases hp'⟩
    have:=(h.sep k i ok _ rk rb hne hk hg hrk hr e (by simpa[wr]using hown)).1
    simp[Nk,hp]at this
  · rename_i p hp
    by_cases hpi:p=i
    · have:Nat.beq p i=true:=by rw[hpi];simp[Nat.beq_eq]
      rw[this]
      refine⟨h,Fr.refl _ _ _,rfl,hg,fun k ok rk hne hk hrk e=>?_,fun q hq hqi=>by rw[hp]at hq;injection hq with hq;exact absurd (hq.symm.trans hpi) hqi⟩
      have:=(h.sep k i ok _ rk rb hne hk hg hrk hr e (by simpa[wr]using hown)).1
      simp[Nk,hp]at this
      exact hne (this.symm.trans hpi)
    · rw[Ak.beq_no hpi]
      obtain⟨rp,hrp⟩:=hok.par p hp
      obtain⟨hd,hfd⟩:=h.del hrp
      refine⟨hd,hfd,rfl,by show(Bm s p).heap.get i=_;rw[Bn,if_neg (fun e=>hpi e.symm)];exact hg,fun k ok rk hne hk hrk e=>?_,fun q hq _=>by
        rw[hp]at hq
        injection hq with hq
        subst hq
        show(Bm s p).heap.get p=none
        rw[Bn,if_pos rfl]⟩
      have hk':(Bm s p).heap.get k=some ok:=hk
      rw[Bn]at hk'
      by_cases hkp:k=p
      · rw[if_pos hkp]at hk';cases hk'
      · rw[if_neg hkp]at hk'
        have:=(h.sep k i ok _ rk rb hne hk' hg hrk hr e (by simpa[wr]using hown)).1
        simp[Nk,hp]at this
        exact hkp this.symm
theorem Q9(i:Nat)(r:EX)(ends:Bool)(k:Nat)(hk:k≠i):(Cs s i r ends).heap.get k=(A1 s i r).heap.get k:=by
 unfold Cs
 cases ends with
 | true=>simp only[cond_true];rw[Dk,if_neg hk]
 | false=>simp only[cond_false];rw[Bn,if_neg hk]
theorem JU(i:Nat)(r:EX)(ends:Bool)(hn:(A1 s i r).next=s.next):(Cs s i r ends).next=s.next:=by
 unfold Cs
 cases ends with
 | true=>exact hn
 | false=>exact hn
theorem J3{i off n:Nat}{l:List AV}{r:EX}(hrow:rowAt s i=some r)(hl:loadN s i off n=some l):off+n≤r.n∧r.c.take off n=some l:=by
 unfold loadN at hl
 rw[hrow]at hl
 obtain⟨hb,hl⟩:=AI (by simpa using hl)
 exact⟨by simpa[qu]using hb,hl⟩
theorem Nr{r:EX}{o m:Nat}{old new:List AV}(ht:r.c.take o m=some old)(k:Nat)(hk:k<(old++new).length):
    (bif Nat.beq o 0 then r.c.fill m new else Ak.fill .leaf 0 (old++new)).get k=(old++new)[k]? := by
  have hlen:=Ak.take_length ht
  by_cases h0:o=0
  · subst h0
    simp only[show Nat.beq 0 0=true from rfl,cond_true,Ak.get_fill]
    by_cases h1:k<m
    · rw[if_neg (by omega),qv (by omega)]
      have:=Ak.take_get ht k h1
      simpa using this
    · simp only[qn]at hk
      rw[if_pos (by omega),qy (by omega),hlen]
  · rw[Ak.beq_no h0]
    simp only[cond_false,Ak.get_fill,qm,qq,true_and,Nat.sub_zero]
    rw[if_pos hk]
theorem PV          (h : By  P ρ s w) (hf : ρ s.next = none) {e : TypeId} {size i o len cap : Nat} {src : Nat × List AV} {r : EX}   {rb : RB} {old : List AV} {v : AV} {new : Array Value}
    (hs:DU P s e size i o len src r old=some (v,s1)) (hrow:rowAt s i=some r) (hr:ρ i=some rb) (hl:loadN s i o (len * size)=some old)
    (hnew:AX ρ src.2 new.toList) (hns:new.size=src.1 * size) (hall:Ae src.2=true) (hsz:0<size) (hle:len+src.1≤cap) (h1:o+cap * size≤rb.N) (h2:rb.N<o+(cap+1) * size)
    (hgt:r.n<o+(len+src.1) * size):
    ∃w1 ρ',(storeCells ⟨rb.b,rb.off+o+len * size,none⟩ new.toList).run P w=.ok () w1∧Ad ρ' v (.slice (some ⟨rb.b,rb.off+o,none⟩) (len+src.1) cap)∧By P ρ' s1 w1∧Fr ρ s w ρ' s1 w1:=by
  unfold DU at hs
  obtain⟨hg,hs⟩:=AI hs
  simp only[Bool.and_eq_true]at hg
  obtain⟨hown,_⟩:=hg
  injection hs with hs
  injection hs with hs1 hs2
  have hget:=C0 hrow
  have hok:F5 ρ w r rb:=h.obj i _ rb hget hr
  obtain⟨hle1,htake⟩:=J3 hrow hl
  have hmode:r.mode≠.ro:=fun e=>by rw[e]at hown;cases hown
  obtain⟨cs,ety,hblk,hszb⟩:=hok.own hmode
  have hoN:o≤rb.N:=by omega
  have hneed:(len+src.1) * size≤cap * size:=rq _ hle
  have hsum:(len+src.1) * size=len * size+src.1 * size:=rO _ _ _
  have hfit:rb.off+o+len * size+new.toList.length≤cs.size:=by simp only[Array.length_toList];omega
  have hone:∀x∈new.toList,x.oneCell'=true:=hnew.oneCell hall
  have hrun:=run_storeCells_at P rb.b (rb.off+o+len * size) ety new.toList 0 cs w hblk (by simpa using hfit) hone
  simp only[sC]at hrun
  generalize hcs1:(cs.toList.take (rb.off+o+len * size)++new.toList++cs.toList.drop (rb.off+o+len * size+new.toList.length)).toArray=cs1 at hrun
  have hblk1:(w.setRow rb.b cs1).heap[rb.b]? = some (.cells cs1 ety (0,0)):=setRow_heap w rb.b cs cs1 ety (0,0) hblk
  have hsize1:cs1.size=cs.size:=by rw[← hcs1];simp;simp at hfit;omega
  have hgetc:∀k,cs1[k]? = if rb.off+o+len * size≤k∧k<rb.off+o+len * size+new.size then new[k - (rb.off+o+len * size)]? else cs[k]? := by
    intro k
    rw[← hcs1,List.getElem?_toArray]
    simp only[Array.length_toList]at hfit ⊢
    by_cases g1:k<rb.off+o+len * size
    · rw[if_neg (by omega),rZ,qv (by simp;omega),rg g1,Array.getElem?_toList]
    · rw[rZ,qy (by simp;omega)]
      have hmin:(cs.toList.take (rb.off+o+len * size)).length=rb.off+o+len * size:=by simp;omega
      rw[hmin]
      by_cases g2:k<rb.off+o+len * size+new.size
      · rw[if_pos (by omega),qv (by simp;omega),Array.getElem?_toList]
      · rw[if_neg (by omega),qy (by simp;omega),rQ,← Array.getElem?_toList]
        congr 1
        simp
        omega
  obtain⟨hu,hfu,hnu,hgu,hsole,_⟩:=Mp h hget hr hown
  have hlenold:=Ak.take_length htake
  have hlensrc:src.2.length=src.1 * size:=by have:=hnew.length;simp at this;omega
  have hlenall:(old++src.2).length=(len+src.1) * size:=by simp;omega
  let rbj:RB:=⟨rb.b,rb.off+o,rb.N - o,size⟩
  have hle':ρ.le (C3 ρ (A1 s i r).next rbj):=by rw[hnu];exact C1 (rb:=rbj) hf
  have hcell:∀k,(w.setRow rb.b cs1).cell? ⟨rb.b,k,none⟩=cs1[k]? := fun k=>by simp[World.cell?,hblk1]
  have hcell0:∀k,w.cell? ⟨rb.b,k,none⟩=cs[k]? := fun k=>by simp[World.cell?,hblk]
  have hsplit:=By.split (s2:=Cs s i r (Nat.beq (o+len * size) r.n)) (w1:=w.setRow rb.b cs1) (rbj:=rbj) (i:=i)
    (rj:={ elem:=e,sz:=size,n:=(old++src.2).length,c:=bif Nat.beq o 0 then r.c.fill (len * size) src.2 else Ak.fill .leaf 0 (old++src.2),spare:=true,mode:=.own,par:=bif Nat.beq (o+len * size) r.n then some i else none,bytes:=false })
    hu hgu hr hown hsole (by rw[hnu];exact hf) ((JU i r _ hnu).trans hnu.symm) (fun k hk=>Q9 i r _ k hk)
    (by
      cases hends:Nat.beq (o+len * size) r.n with
      | false=>exact .inl (by show(Bm _ i).heap.get i=none;rw[Bn,if_pos rfl])
      | true =>
        have hends:=BB hends
        refine .inr ⟨{ r with mode:=.sealed,par:=none },by show(setObj _ i _).heap.get i=_;rw[Dk,if_pos rfl],rfl,?_⟩
        refine⟨?_,hok.le,hok.sz,hok.tight,fun _=>⟨cs1,ety,hblk1,by rw[hsize1];exact hszb⟩,fun p hp=>by cases hp⟩
        intro k v hk hv
        obtain⟨v',g1,g2⟩:=hok.cells k v hk hv
        refine⟨v',?_,g2⟩
        rw[hcell,hgetc,if_neg (by simp only at hk;omega)]
        rw[hcell0]at g1
        exact g1)
    (by
      refine⟨?_,by simp only[rbj];omega,rfl,(fun hh=>by cases hh),fun _=>⟨cs1,ety,hblk1,by simp only[rbj];omega⟩,?_⟩
      · intro k v hk hv
        simp only at hk hv
        rw[Nr htake k hk]at hv
        show ∃v',(w.setRow rb.b cs1).cell? ⟨rb.b,rb.off+o+k,none⟩=some v'∧Ad _ v v'
        rw[hcell,hgetc]
        by_cases hk1:k<len * size
        · rw [if_neg (by omega)]
          rw[qv (by omega),← Ak.take_get htake k hk1]at hv
          obtain⟨v',g1,g2⟩:=hok.cells (o+k) v (by omega) hv
          refine⟨v',?_,g2.mono hle'⟩
          rw[hcell0]at g1
          rw[show rb.off+o+k=rb.off+(o+k)from by omega]
          exact g1
        · rw [hlenall] at hk
          rw[if_pos (by omega),show rb.off+o+k - (rb.off+o+len * size)=k - len * size from by omega]
          rw[qy (by omega),hlenold]at hv
          obtain⟨v',g1,g2⟩:=hnew.get' hv
          exact⟨v',g1,g2.mono hle'⟩
      · intro p hp
        simp only at hp
        cases hends:Nat.beq (o+len * size) r.n with
        | false=>rw[hends]at hp;cases hp
        | true =>
          rw[hends]at hp
          simp only[cond_true]at hp
          injection hp with hp
          subst hp
          exact⟨rb,hle' _ _ hr⟩)
    rfl
    (by
      cases hends:Nat.beq (o+len * size) r.n with
      | false=>exact .inl (by show(Bm _ i).heap.get i=none;rw[Bn,if_pos rfl])
      | true=>exact .inr rfl)
    (by simp) (fun b hb=>setRow_other w rb.b b cs1 hb) rfl rfl rfl
  rw[hnu]at hsplit
  refine⟨w.setRow rb.b cs1,C3 ρ s.next rbj,hrun,?_,?_,?_⟩
  · rw[← hs1]
    have hj:C3 ρ s.next rbj s.next=some rbj:=A8 _ _
    have hm1:cap * size≤rb.N - o:=by omega
    have hm2:rb.N - o<(cap+1) * size:=by omega
    exact Ad.sliceOpen (rb:=rbj) (o:=0) hj hsz hle (by simpa using hm1) (by simpa using hm2)
  · rw[← hs2];exact hsplit.1
  · rw[← hs2];exact hfu.trans hsplit.2
theorem OA           (h : By  P ρ s w) (hf : ρ s.next = none) {e : TypeId} {size i o len newCap : Nat} {src : Nat × List AV} {r : EX}   {rb : RB} {old : List AV} {v : AV} {cs rest : Array Value}
    (hs:DU P s e size i o len src r old=some (v,s1)) (hrow:rowAt s i=some r) (hr:ρ i=some rb) (hl:loadN s i o (len * size)=some old)
    (hc:AX ρ (old++src.2) cs.toList) (hcs:cs.size=(len+src.1) * size) (hsz:0<size) (hcap:len+src.1≤newCap) (hrest:rest.size=(newCap - (len+src.1)) * size):
    ∃ρ',Ad ρ' v (.slice (some ⟨w.heap.size,0,none⟩) (len+src.1) newCap)∧By P ρ' s1 (World.alloc w (.cells (cs++rest) e))∧Fr ρ s w ρ' s1 (World.alloc w (.cells (cs++rest) e)):=by
  unfold DU at hs
  obtain⟨hg,hs⟩:=AI hs
  simp only[Bool.and_eq_true]at hg
  obtain⟨hown,_⟩:=hg
  injection hs with hs
  injection hs with hs1 hs2
  have hget:=C0 hrow
  have hok:F5 ρ w r rb:=h.obj i _ rb hget hr
  obtain⟨hle1,htake⟩:=J3 hrow hl
  obtain⟨hu,hfu,hnu,hgu,hsole,hpar⟩:=Mp h hget hr hown
  have hlen:(old++src.2).length=(len+src.1) * size:=by have:=hc.length;simp only[Array.length_toList]at this;omega
  have htot:newCap * size=(len+src.1) * size+(newCap - (len+src.1)) * size:=by rw[← rO];congr 1;omega
  have hsealed:By P ρ (Cs s i r (Nat.beq (o+len * size) r.n)) w∧Fr ρ (A1 s i r) w ρ (Cs s i r (Nat.beq (o+len * size) r.n)) w:=by
    cases hends:Nat.beq (o+len * size) r.n with
    | false=>exact hu.del hr
    | true =>
      refine hu.set (o1:=.row { r with mode:=.sealed,par:=none }) (w1:=w) hgu hr (by simpa[wr]using hown) hpar rfl rfl (fun _ _=>rfl) rfl rfl rfl ?_
      exact⟨hok.cells,hok.le,hok.sz,hok.tight,fun _=>hok.own (fun e=>by rw[e]at hown;cases hown),fun p hp=>by cases hp⟩
  have hns:(Cs s i r (Nat.beq (o+len * size) r.n)).next=s.next:=JU i r _ hnu
  have hf2:ρ (Cs s i r (Nat.beq (o+len * size) r.n)).next=none:=by rw[hns];exact hf
  generalize hs2':Cs s i r (Nat.beq (o+len * size) r.n)=s2 at *
  have hle:=C1 (rb:=⟨w.heap.size,0,newCap * size,size⟩) hf2
  have hblk:(World.alloc w (.cells (cs++rest) e)).heap[w.heap.size]? = some (.cells (cs++rest) e (0,0)):=World.alloc_heap_new w _
  obtain⟨h1,h2⟩:=hsealed.1.new (o:=CL e size (bif Nat.beq o 0 then r.c.fill (len * size) src.2 else Ak.fill .leaf 0 (old++src.2)) (old++src.2).length (bif Nat.beq (o+len * size) r.n then some i else none))
    (o':=.cells (cs++rest) e) (rb:=⟨w.heap.size,0,newCap * size,size⟩) hf2 rfl (by
    refine⟨?_,by simp only;omega,rfl,(fun hh=>by cases hh),fun _=>⟨cs++rest,e,hblk,by simp[hcs,hrest];omega⟩,?_⟩
    · intro k v hk hv
      simp only at hk hv
      rw[Nr htake k hk]at hv
      obtain⟨v',g1,g2⟩:=hc.get' hv
      refine⟨v',?_,g2.mono hle⟩
      simp only[World.cell?,hblk,qq]
      have hkc:k<cs.size:=by omega
      simp only[Option.isSome_none,Bool.false_eq_true,if_false]
      rw[Array.getElem?_append_left hkc]
      exact g1
    · intro p hp
      simp only at hp
      cases hends:Nat.beq (o+len * size) r.n with
      | false=>rw[hends]at hp;cases hp
      | true =>
        rw[hends]at hp
        simp only[cond_true]at hp
        injection hp with hp
        subst hp
        exact⟨rb,hle _ _ hr⟩)
  refine⟨_,?_,by rw[← hs2];exact h1,by rw[← hs2];exact(hfu.trans hsealed.2).trans h2⟩
  rw[← hs1,← hns]
  refine Ad.sliceOpen (A8 _ _) hsz hcap (by simp) ?_
  simp only[qq]
  exact Nat.mul_lt_mul_of_pos_right (by omega) hsz
end
section
variable{P:Program}{ρ ρ1 ρ2:Bq}{s s1 s2:AE}{w w1 w2:World}
theorem DE{i o len:Nat}{cap:Option Nat}{v':Value}(h:Ad ρ (.slice (some (i,o)) len cap) v'):
  ∃rb a c,ρ i=some rb∧v'=.slice (some a) len c∧len≤c∧(∀k,cap=some k→c=k∧a=⟨rb.b,rb.off+o,none⟩) ∧
   (cap=none→0<rb.sz∧((a=⟨rb.b,rb.off+o,none⟩∧o+c * rb.sz≤rb.N∧rb.N<o+(c+1) * rb.sz)∨(len=0∧c=0∧o≤rb.N∧rb.N<o+rb.sz))):=by
 cases h with
 | slice hr hl=>exact⟨_,_,_,hr,rfl,hl,(fun k hk=>by injection hk with hk;exact⟨hk,rfl⟩),fun hk=>by cases hk⟩
 | sliceOpen hr hs hl h1 h2=>exact⟨_,_,_,hr,rfl,hl,(fun k hk=>by cases hk),fun _=>⟨hs,.inl ⟨rfl,h1,h2⟩⟩⟩
 | sliceEnd hr hs h1 h2=>exact⟨_,_,_,hr,rfl,qg _,(fun k hk=>by cases hk),fun _=>⟨hs,.inr ⟨rfl,rfl,h1,h2⟩⟩⟩
theorem FW(a:Addr)(w:World):(loadCells a 0).run P w=.ok #[] w:=rfl
theorem Kw(h:By P ρ s w){st xt ty e:TypeId}{size by_ n sLen sCap:Nat}{base:Option Addr}{x':Value}{old:List Value}{oldA:List AV}{new:Array Value}
  (hu:P.underlying st=some (.slice e)) (hs:BD P e=some size) (hby:Cg P e=some by_) (hsz:size≠0)
  (hb:(sLen+n) * by_≤1099511627776) (hb2:sLen+n≤1099511627776)
  (hx:UT P e xt size n x' new w) (hgt:sCap<sLen+n) (hz:CB P e size=true)
  (hold:∀w1:World,w1.heap=w.heap→(Builtin.firstCells size sLen (.slice base sLen sCap)).run P w1=.ok old.toArray w1):
  ∃newCap rest,sLen+n≤newCap∧Array.size rest=(newCap - (sLen+n)) * size∧(Builtin.append_ #[st,xt] ty #[.slice base sLen sCap,x']).run P w =
   .ok (.slice (some ⟨w.heap.size,0,none⟩) (sLen+n) newCap) (World.alloc { w with drawn:=w.drawn+1 } (.cells ((old.toArray++new)++rest) e)):=by
 obtain⟨z,z',_,_,h2,h3,_⟩:=Kh ρ hz
 obtain⟨newCap,g1,g2⟩:=run_append_grow (ty:=ty) hu hs hby hsz hb hb2 hx hgt h2 (old:=old.toArray) (fun d=>hold _ rfl)
 exact⟨newCap,_,g1,by simp[Builtin.zeroCells,h3],g2⟩
theorem R5         (h : By  P ρ s w) (hf : ρ s.next = none) {st xt ty : TypeId} {a x v : AV} {a' x' : Value} (hs : AY      P s [st, xt] [a, x] = some (v, s1)) (ha : Ad   ρ a a') (hx : Ad   ρ x x') :
    UO P ρ s w (Builtin.append_ #[st,xt] ty #[a',x']) v s1:=by
  unfold AY at hs
  split at hs<;>first | (cases hs;done) | skip
  rename_i RL xt0 a0 len cap x0 hty hargs
  injection hty with e1 e2
  injection e2 with e2 _
  injection hargs with e3 e4
  injection e4 with e4 _
  subst e1;subst e2;subst e3;subst e4
  split at hs<;>first | (cases hs;done) | skip
  rename_i e hu
  simp only[qh]at hs
  obtain⟨size,hsize,by_,hby,hs⟩:=hs
  obtain⟨hg,hsA⟩:=AI hs
  clear hs
  simp only[Bool.and_eq_true]at hg
  obtain⟨hg0,hg1⟩:=hg
  have hsz:size≠0:=by intro e0;rw[e0]at hg0;cases hg0
  simp only[qh]at hsA
  obtain⟨src,hsrc,hsB⟩:=hsA
  obtain⟨hg2,hs⟩:=AI hsB
  clear hsB
  simp only[Bool.and_eq_true,qu]at hg2
  obtain⟨⟨hall,hb⟩,hb2⟩:=hg2
  obtain⟨new,hnew,hsok,hns⟩:=RK h hg1 hsrc hx
  have hone:=hnew.oneCell hall
  have hsrclen:src.2.length=src.1 * size:=by have:=hnew.length;simp only[Array.length_toList]at this;omega
  unfold appTo at hs
  split at hs
  ·
    cases ha
    cases hk:Nat.beq src.1 0 with
    | true =>
      rw[hk]at hs
      simp only[cond_true]at hs
      injection hs with hs
      injection hs with hs1 hs2
      subst hs1;subst hs2
      have hk:=BB hk
      have:=Da (w:=w) (w1:=w) (ty:=ty) (base:=none) (sLen:=0) (sCap:=0) hu hsize hby hsz (by simpa using hb) hsok (by rw[hk];exact qg _) rfl
      rw[hk]at this
      exact⟨.slice none 0 0,w,ρ,this,.sliceNil,h,Fr.refl _ _ _⟩
    | false =>
      rw[hk]at hs
      simp only[cond_false]at hs
      have hk:src.1≠0:=fun e0=>by rw[e0]at hk;cases hk
      have hz:CB P e size=true:=by unfold Bf at hs;exact(AI hs).1
      obtain⟨newCap,rest,g1,g2,g3⟩:=Kw (ty:=ty) (oldA:=[]) (base:=none) (sLen:=0) (sCap:=0) h hu hsize hby hsz hb hb2 hsok (by omega) hz (old:=[]) (fun w1 _=>rfl)
      simp only[qq]at g1 g2 g3
      obtain⟨ρ',f1,f2,f3⟩:=Gt (h.drawn (w.drawn+1)) hf hs (newCap:=newCap) (cs:=[].toArray++new) (rest:=rest) (by simpa using hnew) (by simpa using hns) (by omega) g1 g2
      exact⟨_,_,ρ',g3,f1,f2,(Fr.drawn' (w.drawn+1)).trans f3⟩
  · rename_i i o
    obtain⟨rb,ad,c,hr,hv,hlc,hexact,hopen⟩:=DE ha
    subst hv
    split at hs
    ·
      rename_i c0
      obtain⟨rfl,rfl⟩:=hexact c0 rfl
      unfold DB at hs
      cases hfit:Nat.ble (len+src.1) c with
      | true =>
        rw[hfit]at hs
        simp only[cond_true,qh]at hs
        obtain⟨s',hst,hs⟩:=hs
        injection hs with hs
        injection hs with hs1 hs2
        subst hs1;subst hs2
        have hfit:len+src.1≤c:=by simpa[qu]using hfit
        obtain⟨w1,k1,k2,k3⟩:=Hq h hr hst hnew
        have:=Da (w:=w) (w1:=w1) (ty:=ty) (base:=some ⟨rb.b,rb.off+o,none⟩) (sLen:=len) (sCap:=c) hu hsize hby hsz hb hsok hfit (by simp only[Ct];rw[show rb.off+o+len * size=rb.off+(o+len * size)from by omega];exact k1)
        exact⟨_,w1,ρ,this,.slice (k3.le _ _ hr) hfit,k2,k3⟩
      | false =>
        rw[hfit]at hs
        simp only[cond_false,qh]at hs
        obtain⟨old,hold,hs⟩:=hs
        have hfit:c<len+src.1:=by
          rcases qk c (len+src.1)with h' | h'
          · exact h'
          · rw[Nat.ble_eq_true_of_le h']at hfit;cases hfit
        obtain⟨old',o1,o2,o3⟩:=Ec h hr hold
        have hz:CB P e size=true:=by unfold Bf at hs;exact(AI hs).1
        obtain⟨newCap,rest,g1,g2,g3⟩:=Kw (ty:=ty) (oldA:=old) h hu hsize hby hsz hb hb2 hsok hfit hz (old:=old') (base:=some ⟨rb.b,rb.off+o,none⟩) (fun w1 hw1=>o3 w1 hw1)
        obtain⟨ρ',f1,f2,f3⟩:=Gt (h.drawn (w.drawn+1)) hf hs (cs:=old'.toArray++new) (rest:=rest) (by rw[Array.toList_append];exact o1.append hnew) (by simp[hns,o2,rO]) (by omega) g1 g2
        exact⟨_,_,ρ',g3,f1,f2,(Fr.drawn' (w.drawn+1)).trans f3⟩
    ·
      obtain⟨hsz0,hcases⟩:=hopen rfl
      simp only[qh]at hs
      obtain⟨r,hrow,hs⟩:=hs
      have hok:F5 ρ w r rb:=h.obj i _ rb (C0 hrow) hr
      unfold DG at hs
      obtain⟨hgs,hsC⟩:=AI hs
      clear hs
      have hs:=hsC
      clear hsC
      have hgs:=BB hgs
      have hrs:rb.sz=size:=by rw[← hok.sz];exact hgs.symm
      rw[hrs]at hcases hsz0
      cases hfit:Nat.ble (o+(len+src.1) * size) r.n with
      | true =>
        rw[hfit]at hs
        simp only[cond_true,qh]at hs
        obtain⟨s',hst,hs⟩:=hs
        injection hs with hs
        injection hs with hs1 hs2
        subst hs1;subst hs2
        have hfit:o+(len+src.1) * size≤r.n:=by simpa[qu]using hfit
        have hfit2:o+(len+src.1) * size≤rb.N:=qs hfit hok.le
        obtain⟨w1,k1,k2,k3⟩:=Hq h hr hst hnew
        rcases hcases with⟨rfl,c1,c2⟩ | ⟨rfl,rfl,c1,c2⟩
        · have hle:len+src.1≤c:=by
            rcases qk c (len+src.1)with h' | h'
            · have:(c+1) * size≤(len+src.1) * size:=rq _ h'
              omega
            · exact h'
          have:=Da (w:=w) (w1:=w1) (ty:=ty) (base:=some ⟨rb.b,rb.off+o,none⟩) (sLen:=len) (sCap:=c) hu hsize hby hsz hb hsok hle (by simp only[Ct];rw[show rb.off+o+len * size=rb.off+(o+len * size)from by omega];exact k1)
          exact⟨_,w1,ρ,this,.sliceOpen (k3.le _ _ hr) (by rw[hrs];exact hsz0) hle (by rw[hrs];exact c1) (by rw[hrs];exact c2),k2,k3⟩
        · have hk0:src.1=0:=by
            rcases rh src.1 with h' | h'
            · exact h'
            · have:1 * size≤(0+src.1) * size:=rq _ (by omega)
              omega
          have hnew0:new.toList=[]:=by
            have:new.size=0:=by rw[hns,hk0];simp
            simpa using this
          have hs20:src.2=[]:=by
            have:src.2.length=0:=by rw[hsrclen,hk0];simp
            simpa using this
          have hst0:s'=s:=by rw[hs20]at hst;simp[Cc]at hst;exact hst.symm
          subst hst0
          have:=Da (w:=w) (w1:=w) (ty:=ty) (base:=some ad) (sLen:=0) (sCap:=0) hu hsize hby hsz hb hsok (by omega) (by simp only[hnew0];rfl)
          rw[hk0]at this ⊢
          exact⟨_,w,ρ,this,.sliceEnd hr (by rw[hrs];exact hsz0) c1 (by rw[hrs];exact c2),h,Fr.refl _ _ _⟩
      | false =>
        rw[hfit]at hs
        simp only[cond_false,qh]at hs
        obtain⟨old,hold,hs⟩:=hs
        have hgt:r.n<o+(len+src.1) * size:=by
          rcases qk r.n (o+(len+src.1) * size)with h' | h'
          · exact h'
          · rw[Nat.ble_eq_true_of_le h']at hfit;cases hfit
        obtain⟨old',o1,o2,o3⟩:=Ec h hr hold
        obtain⟨hle1,htake⟩:=J3 hrow hold
        have hold':∀w1:World,w1.heap=w.heap→(Builtin.firstCells size len (.slice (some ad) len c)).run P w1=.ok old'.toArray w1:=by
          intro w1 hw1
          rcases hcases with⟨rfl,_,_⟩ | ⟨rfl,rfl,_,_⟩
          · exact o3 w1 hw1
          · have:old'=[]:=by simpa using o2
            subst this
            simp[Builtin.firstCells,FW]
        have hcsrel:AX ρ (old++src.2) (old'.toArray++new).toList:=by rw[Array.toList_append];exact o1.append hnew
        have hcssz:(old'.toArray++new).size=(len+src.1) * size:=by simp[hns,o2,rO]
        cases hsp:r.spare with
        | true =>
          rw[hsp]at hs
          simp only[cond_true]at hs
          have hz:CB P e size=true:=by
            unfold DU at hs
            have:=(AI hs).1
            simp only[Bool.and_eq_true]at this
            exact this.2
          rcases qk c (len+src.1)with hlt | hge
          · obtain ⟨newCap, rest, g1, g2, g3⟩ := Kw      (ty := ty) (oldA := old) h hu hsize hby hsz hb hb2 hsok hlt hz hold'
            obtain⟨ρ',f1,f2,f3⟩:=OA (h.drawn (w.drawn+1)) hf hs hrow hr hold hcsrel hcssz (by omega) g1 g2
            exact⟨_,_,ρ',g3,f1,f2,(Fr.drawn' (w.drawn+1)).trans f3⟩
          · rcases hcases with ⟨rfl, c1, c2⟩ | ⟨rfl, rfl, c1, c2⟩
            · obtain⟨w1,ρ',k1,k2,k3,k4⟩:=PV h hf hs hrow hr hold hnew hns hall (by omega) hge c1 c2 hgt
              have:=Da (w:=w) (w1:=w1) (ty:=ty) (base:=some ⟨rb.b,rb.off+o,none⟩) (sLen:=len) (sCap:=c) hu hsize hby hsz hb hsok hge (by simp only[Ct];exact k1)
              exact⟨_,w1,ρ',this,k2,k3,k4⟩
            · have hk0:src.1=0:=by omega
              rw[hk0]at hgt
              simp at hgt hle1
              omega
        | false =>
          rw[hsp]at hs
          simp only[cond_false]at hs
          have htight:=hok.tight hsp
          have hlt:c<len+src.1:=by
            rcases qk c (len+src.1)with h' | h'
            · exact h'
            · rcases hcases with ⟨rfl, c1, c2⟩ | ⟨rfl, rfl, c1, c2⟩
              · have:(len+src.1) * size≤c * size:=rq _ h'
                omega
              · have hk0:src.1=0:=by omega
                rw[hk0]at hgt
                simp at hgt hle1
                omega
          have hz:CB P e size=true:=by unfold Bf at hs;exact(AI hs).1
          obtain⟨newCap,rest,g1,g2,g3⟩:=Kw (ty:=ty) (oldA:=old) h hu hsize hby hsz hb hb2 hsok hlt hz hold'
          obtain⟨ρ',f1,f2,f3⟩:=Gt (h.drawn (w.drawn+1)) hf hs hcsrel hcssz (by omega) g1 g2
          exact⟨_,_,ρ',g3,f1,f2,(Fr.drawn' (w.drawn+1)).trans f3⟩
end
section
variable{P:Program}{ρ ρ1 ρ2:Bq}{s s1 s2:AE}{w w1 w2:World}
theorem M0{t:TypeId}{x v:AV}{x':Value}{f:Nat}(h:AB P t x f=some v)(hx:Ad ρ x x'):
  ∃v',(Instr.fieldAt t x' f).run P w=.ok v' w∧Ad ρ v v':=by
 unfold AB at h
 split at h<;>first | (cases h;done) | skip
 rename_i i o
 split at h<;>first | (cases h;done) | skip
 rename_i fs hfs
 simp only[qh]at h
 obtain⟨fd,hfd,n,hn,h⟩:=h
 obtain⟨hz,h⟩:=AI h
 injection h with h;subst h
 have hn0:n≠0:=by intro e;subst e;cases hz
 cases hx with
 | ptr hr =>
  rename_i rb
  refine⟨.pointer (some ⟨rb.b,rb.off+(o+fd.offset),none⟩),?_,.ptr hr⟩
  simp[Instr.fieldAt,AO hfs,hfd,Instr.sureAddr,fieldPlace,BL hn,hn0,Ct,rU]
theorem M5{t:TypeId}{x ix v:AV}{x' ix':Value}(h:AD P t x ix=some v)(hx:Ad ρ x x')(hi:Ad ρ ix ix'):
  ∃v',(Instr.indexAt t x' ix').run P w=.ok v' w∧Ad ρ v v':=by
 unfold AD at h
 simp only[qh]at h
 obtain⟨k,hk,h⟩:=h
 obtain⟨kd,rfl⟩:=MB hk hi
 split at h<;>first | (cases h;done) | skip
 ·split at h<;>first | (cases h;done) | skip
  rename_i i o _ len e he
  simp only[qh]at h
  obtain⟨n,hn,h⟩:=h
  obtain⟨hlt,h⟩:=AI h
  injection h with h;subst h
  have hlt':k<len:=by simpa[rJ]using hlt
  cases hx with
  | ptr hr =>
   rename_i rb
   have:(0:Int)≤(k:Int)∧(k:Int)<(len:Int):=by omega
   refine⟨.pointer (some ⟨rb.b,rb.off+(o+k * n),none⟩),?_,.ptr hr⟩
   simp[Instr.indexAt,asIntOf,AO he,Instr.sureAddr,this,BL hn,Ct,rU]
   omega
 ·split at h<;>first | (cases h;done) | skip
  rename_i i o len cap _ e he
  simp only[qh]at h
  obtain⟨n,hn,h⟩:=h
  obtain⟨hlt,h⟩:=AI h
  injection h with h;subst h
  have hlt':k<len:=by simpa[rJ]using hlt
  have:(0:Int)≤(k:Int)∧(k:Int)<(len:Int):=by omega
  cases hx with
  | slice hr hl =>
   rename_i c rb
   refine⟨.pointer (some ⟨rb.b,rb.off+(o+k * n),none⟩),?_,.ptr hr⟩
   simp[Instr.indexAt,asIntOf,AO he,Instr.sureAddr,this,BL hn,Ct,rU]
   omega
  | sliceOpen hr hs hl h1 h2 =>
   rename_i c rb
   refine⟨.pointer (some ⟨rb.b,rb.off+(o+k * n),none⟩),?_,.ptr hr⟩
   simp[Instr.indexAt,asIntOf,AO he,Instr.sureAddr,this,BL hn,Ct,rU]
   omega
  | sliceEnd=>omega
theorem eR      (h : By  P ρ s w) {t ty : TypeId} {x v : AV} {x' : Value} {tys : Array TypeId} (ht : tys[0]? = some t) (hs : As   P s t x = some v) (hx : Ad   ρ x x') :
    ∃v',(Builtin.len_ tys ty #[x']).run P w=.ok v' w∧Ad ρ v v':=by
  unfold As at hs
  split at hs<;>first | (cases hs;done) | skip
  · split at hs<;>first | (cases hs;done) | skip
    rename_i hu
    injection hs with hs;subst hs
    cases hx with
    | str he =>
      rename_i b
      subst he
      refine⟨.int .i64 b.size,by simp[Builtin.len_,ht,AO hu,goInt],?_⟩
      have:(Int.ofNat (Fz b.data.toList).length)=(b.size:Int):=by rw[GH];rfl
      rw[this]
      exact .int _ _
  · split at hs<;>first | (cases hs;done) | skip
    rename_i hu
    injection hs with hs;subst hs
    cases hx<;>exact⟨_,by simp only[Builtin.len_,ht];simp[AO hu,goInt]<;>rfl,.int _ _⟩
  · split at hs<;>first | (cases hs;done) | skip
    rename_i hu
    injection hs with hs;subst hs
    cases hx
    exact⟨_,by simp only[Builtin.len_,ht];simp[AO hu,goInt]<;>rfl,.int _ _⟩
  · split at hs <;> first | (cases hs; done) | skip
    rename_i i _ k e hu
    split at hs<;>first | (cases hs;done) | skip
    rename_i es clock hg
    injection hs with hs;subst hs
    cases hx with
    | map hr =>
      rename_i rb
      obtain⟨es',hh,he⟩:∃es':Array MapEntry,w.heap[rb.b]? = some (.map es' clock)∧Ew ρ es es'.toList:=h.obj i _ rb hg hr
      have hlen:es.length=es'.size:=by
        have:es.length=es'.toList.length:=by
          clear hh hg
          generalize es'.toList=l at he
          induction he with
          | nil=>rfl
          | cons _ _ _ _ ih=>simp[ih]
        simpa using this
      refine⟨.int .i64 es'.size,by simp[Builtin.len_,ht,AO hu,goInt,getObj,hh,Sem.run],?_⟩
      rw[hlen]
      exact .int _ _
theorem dg      (h : By  P ρ s w) {t ty : TypeId} {x v : AV} {x' : Value} {tys : Array TypeId} (ht : tys[0]? = some t) (hs : Mz   P s t x = some v) (hx : Ad   ρ x x') :
    ∃v',(Builtin.cap_ tys ty #[x']).run P w=.ok v' w∧Ad ρ v v':=by
  unfold Mz at hs
  split at hs<;>first | (cases hs;done) | skip
  rename_i a len cap
  split at hs<;>first | (cases hs;done) | skip
  rename_i e hu
  split at hs
  · injection hs with hs;subst hs
    cases hx<;>exact⟨_,by simp only[Builtin.cap_,ht];simp[AO hu,goInt]<;>rfl,.int _ _⟩
  · split at hs<;>first | (cases hs;done) | skip
    rename_i i o
    simp only[qh]at hs
    obtain⟨n,hn,r,hrow,hs⟩:=hs
    obtain⟨hg,hs⟩:=AI hs
    injection hs with hs;subst hs
    simp only[Bool.and_eq_true,Bool.not_eq_true',qu]at hg
    obtain⟨⟨⟨g1,g2⟩,g3⟩,g4⟩:=hg
    have g3:=BB g3
    have hn0 : 0 < n := by rcases rh                 n with e0 | h'; · subst e0; cases g4
                           · exact h'
    cases hx with
    | sliceOpen hr hs hl h1 h2 =>
      rename_i c rb
      have hok:F5 ρ w r rb:=h.obj i _ rb (C0 hrow) hr
      have hsz:rb.sz=n:=by rw[← hok.sz];exact g3.symm
      have hN:rb.N=r.n:=hok.tight g1
      rw[hsz,hN]at h1 h2
      have:(r.n - o) / n=c:=by
        have e1:c * n≤r.n - o:=by omega
        have e2:r.n - o<(c+1) * n:=by omega
        exact Nat.le_antisymm (Nat.lt_succ_iff.1 ((Nat.div_lt_iff_lt_mul hn0).2 e2)) ((Nat.le_div_iff_mul_le hn0).2 e1)
      refine⟨.int .i64 c,by simp[Builtin.cap_,ht,AO hu,goInt],?_⟩
      rw[this]
      exact .int _ _
    | sliceEnd hr hs h1 h2 =>
      rename_i rb ad
      have hok:F5 ρ w r rb:=h.obj i _ rb (C0 hrow) hr
      have hsz:rb.sz=n:=by rw[← hok.sz];exact g3.symm
      have hN:rb.N=r.n:=hok.tight g1
      rw[hsz,hN]at h2
      have:(r.n - o) / n=0:=Nat.div_eq_of_lt (by omega)
      refine⟨.int .i64 (0:Nat),by simp[Builtin.cap_,ht,AO hu,goInt],?_⟩
      rw[this]
      exact .int _ _
theorem Hk        {mx : Bool} : ∀ {l : List AV} {v r : AV} {v' : Value} {l' : List Value}, D6     mx v l = some r → Ad   ρ v v' → AX    ρ l l' →
    ∃r',(l'.foldlM (if mx then Builtin.max2 else Builtin.min2) v').run P w=.ok r' w∧Ad ρ r r'
  | [],v,r,v',l',h,hv,hl=>by
    cases hl
    have:D6 mx v []=some v:=by cases v<;>rfl
    rw[this]at h
    injection h with h;subst h
    exact⟨v',by simp,hv⟩
  | a::l,v,r,v',l',h,hv,hl=>by
    cases hl with
    | cons ha hl =>
      unfold D6 at h
      split at h<;>first | (cases h;done) | skip
      · rename_i hq;cases hq
      · rename_i k a k2 b l2 hq
        injection hq with h1 h2
        subst h1;subst h2
        obtain⟨hk,hg⟩:=AI h
        clear h
        have hkk:=Fq hk
        clear hk
        subst hkk
        cases hv;cases ha
        cases mx with
        | true =>
          obtain⟨r',e1,e2⟩:=Hk hg (.int _ _) hl
          refine⟨r',?_,e2⟩
          simp only[cond_true,D5]at e1
          simp only[if_true,List.foldlM_cons,Builtin.max2]at e1 ⊢
          simp only[Sem.run_bind,Sem.run_pure,Result.andThen_ok]
          rw[← e1]
          by_cases hc:a<b
          · rw[if_pos (show b > a from hc)];simp[hc]
          · rw[if_neg (show ¬ b > a from hc)];simp[hc]
        | false =>
          obtain⟨r',e1,e2⟩:=Hk hg (.int _ _) hl
          refine⟨r',?_,e2⟩
          simp only[cond_false,D5]at e1
          simp only[if_neg Bool.false_ne_true,List.foldlM_cons,Builtin.min2]at e1 ⊢
          simp only[Sem.run_bind,Sem.run_pure,Result.andThen_ok]
          rw[← e1]
          by_cases hc:b<a
          · rw[if_pos hc];simp[hc]
          · rw[if_neg hc];simp[hc]
theorem LH         : ∀ {l : List AV} {l' : List Value} {b : List Nat} {acc : ByteArray}, C5.bytesOf    l = some b → AX    ρ l l' →
    ∃r:ByteArray,((forIn (m:=Sem) l' acc fun c (s:ByteArray)=>match c with
      | .int .u8 n=>pure (ForInStep.yield (s.push (UInt8.ofNat n.toNat)))
      | _=>do
        stuck "bytesToString: byte expected"
        pure (ForInStep.yield s))).run P w=.ok r w∧Fz r.data.toList=Fz acc.data.toList++b
  | [],l',b,acc,h,hl=>by
    cases hl
    simp[C5.bytesOf]at h
    subst h
    exact⟨acc,by simp,by simp⟩
  | a::l,l',b,acc,h,hl=>by
    cases hl with
    | cons ha hl =>
      unfold C5.bytesOf at h
      split at h<;>first | (cases h;done) | skip
      · rename_i hq;cases hq
      · rename_i n l2 hq
        injection hq with h1 h2
        subst h1;subst h2
        obtain⟨hb,hg⟩:=AI h
        clear h
        simp only[qh]at hg
        obtain⟨b',hb',hg⟩:=hg
        injection hg with hg;subst hg
        cases ha
        obtain⟨r,e1,e2⟩:=LH (acc:=acc.push (UInt8.ofNat n)) hb' hl
        refine⟨r,?_,?_⟩
        · rw[← e1]
          simp
        · rw[e2]
          have:n<256:=by simpa[rJ]using hb
          simp[ByteArray.push,UInt8.toNat_ofNat,Nat.mod_eq_of_lt this]
theorem aT       (h : By  P ρ s w) {src dst : TypeId} {x v : AV} {x' : Value} (hs : C5    P s src dst x = some v) (hx : Ad   ρ x x') :
    ∃v',(convert src dst x').run P w=.ok v' w∧Ad ρ v v':=by
  unfold C5 at hs
  split at hs<;>first | (cases hs;done) | skip
  · rename_i d k kd n hd hk
    injection hs with hs;subst hs
    cases hx
    exact⟨.int k (k.wrap n),by simp[convert,AO hd,AO hk,Conv.intToInt],by rw[HW];exact .int _ _⟩
  · rename_i d l hd hk
    injection hs with hs;subst hs
    cases hx with
    | str he=>exact⟨_,by simp[convert,AO hd,AO hk]<;>rfl,.str he⟩
  · rename_i e a len cap hd hk
    split at hs<;>first | (cases hs;done) | skip
    rename_i he
    split at hs
    · injection hs with hs;subst hs
      cases hx<;>exact⟨.string .empty,by simp[convert,AO hd,AO hk,AO he,Conv.bytesToString],.str rfl⟩
    · rename_i i o
      simp only[qh]at hs
      obtain⟨l,hl,b,hb,hs⟩:=hs
      injection hs with hs;subst hs
      obtain⟨rb,ad,c,hr,hv,hlc,hexact,hopen⟩:=DE hx
      subst hv
      obtain⟨l',e1,e2,e3⟩:=Ec h hr hl
      have e3':(loadCells ad len).run P w=.ok l'.toArray w:=by
        cases cap with
        | some c0=>obtain⟨_,rfl⟩:=hexact c0 rfl;exact e3 w rfl
        | none =>
          rcases(hopen rfl).2 with⟨rfl,_⟩ | ⟨rfl,_⟩
          · exact e3 w rfl
          · have:l'=[]:=by simpa using e2
            subst this
            exact FW ad w
      obtain⟨r,f1,f2⟩:=LH (P:=P) (w:=w) (acc:=.empty) hb e1
      refine⟨.string r,?_,.str (by simpa using f2)⟩
      simp only[convert,Sem.run_bind,AO hd,AO hk,AO he,Result.andThen_ok,Conv.bytesToString,e3']
      simp only[List.forIn_toArray]
      exact(congrArg (fun(r:Result ByteArray)=>r.andThen fun a w'=>Sem.run P (pure (Value.string a)) w') f1)
end
section
variable{P:Program}{ρ ρ1 ρ2:Bq}{s s1 s2:AE}{w w1 w2:World}
theorem FF{x:AV}{x':Value}{y i:Nat}(h:Au x y=some i)(hx:Ad ρ x x')(code:BoundsCode):
  i≤y∧(Instr.sliceBound x' y code).run P w=.ok i w:=by
 unfold Au at h
 simp only[qh]at h
 obtain⟨k,hk,h⟩:=h
 obtain⟨hle,h⟩:=AI h
 injection h with h;subst h
 obtain⟨kd,rfl⟩:=MB hk hx
 have hle:k≤y:=by simpa[qu]using hle
 refine⟨hle,?_⟩
 have:(0:Int)≤(k:Int)∧(k:Int)≤(y:Int):=by omega
 simp[Instr.sliceBound,asIntOf,this]
inductive LB (ρ:Bq):Option AV→Option Value→Prop
 | none:LB ρ none none
 | some {v:AV} {v':Value} (h:Ad ρ v v'):LB ρ (some v) (some v')
def pL(cap m:Nat):Option AV→Prop
 | some v=>Au v cap=some m
 | none=>m=cap
def pH(mx:Option AV)(len m h:Nat):Option AV→Prop
 | some v=>Au v m=some h
 | none=>h=len∧mx=none
def nL(h l:Nat):Option AV→Prop
 | some v=>Au v h=some l
 | none=>l=0
theorem EJ{lo hi mx:Option AV}{lo' hi' mx':Option Value}(hlo:LB ρ lo lo')(hhi:LB ρ hi hi')(hmx:LB ρ mx mx')(isS:Bool){len cap m h l:Nat}
  (h1:pL cap m mx) (h2:pH mx len m h hi) (h3:nL h l lo):
  (Instr.sliceBounds isS len cap lo' hi' mx').run P w=.ok (l,h,m) w:=by
 unfold Instr.sliceBounds
 cases hmx with
 | none =>
  have h1:m=cap:=h1
  subst h1
  cases hhi with
  | none =>
   obtain⟨rfl,_⟩:=h2
   cases hlo with
   | none=>have h3:l=0:=h3;subst h3;simp
   | some hv=>obtain⟨_,e⟩:=FF (P:=P) (w:=w) h3 hv .sliceB;simp[e]
  | some hv =>
   obtain⟨_,e⟩:=FF (P:=P) (w:=w) h2 hv (if isS then .sliceAcap else .sliceAlen)
   cases hlo with
   | none=>have h3:l=0:=h3;subst h3;simp[e]
   | some hv2=>obtain⟨_,e2⟩:=FF (P:=P) (w:=w) h3 hv2 .sliceB;simp[e,e2]
 | some hm =>
  obtain⟨_,e0⟩:=FF (P:=P) (w:=w) h1 hm (if isS then .slice3Acap else .slice3Alen)
  cases hhi with
  | none=>exact absurd h2.2 (by simp)
  | some hv =>
   obtain⟨_,e⟩:=FF (P:=P) (w:=w) h2 hv .slice3B
   cases hlo with
   | none=>have h3:l=0:=h3;subst h3;simp[e0,e]
   | some hv2=>obtain⟨_,e2⟩:=FF (P:=P) (w:=w) h3 hv2 .slice3C;simp[e0,e,e2]
theorem KN{x:AV}{y z i:Nat}(h:Au x y=some i)(hle:y≤z):Au x z=some i:=by
 unfold Au at h ⊢
 simp only[qh]at h ⊢
 obtain⟨k,hk,h⟩:=h
 obtain⟨h1,h2⟩:=AI h
 refine⟨k,hk,?_⟩
 have:k≤y:=by simpa[qu]using h1
 have:Nat.ble k z=true:=by simp[qu];omega
 simp only[AG,this,cond_true]
 exact h2
theorem DH{x:AV}{y i:Nat}(h:Au x y=some i):i≤y:=by
 unfold Au at h
 simp only[qh]at h
 obtain⟨k,hk,h⟩:=h
 obtain⟨h1,h2⟩:=AI h
 injection h2 with h2;subst h2
 simpa[qu]using h1
theorem I0(s:ByteArray)(o h:Nat):Fz (s.extract o h).data.toList=((Fz s.data.toList).drop o).take (h - o):=by
 simp[Fz,sD,sI,Array.toList_extract]
theorem W2{lo hi mx:Option AV}{lo' hi' mx':Option Value}(hlo:LB ρ lo lo')(hhi:LB ρ hi hi')(hmx:LB ρ mx mx'){len i o:Nat}{e:TypeId}{v:AV}{rb:RB}(hr:ρ i=some rb)
    (hs:An.arr P lo hi mx len e i o=some v):
    ∃l h m n,(Instr.sliceBounds false len len lo' hi' mx').run P w=.ok (l,h,m) w∧BD P e=some n ∧
      Ad ρ v (.slice (some (if m=l then ⟨rb.b,rb.off+o,none⟩else (⟨rb.b,rb.off+o,none⟩:Addr).add (l * n))) (h - l) (m - l)):=by
  unfold An.arr at hs
  simp only[qh]at hs
  obtain⟨n,hn,m,hm,h,hh,l,hl,hs⟩:=hs
  injection hs with hs;subst hs
  have hmh:h≤m:=by
    cases hi with
    | some v=>exact DH hh
    | none =>
      cases mx with
      | none=>simp at hm hh;omega
      | some _=>simp at hh
  have hlh:l≤h:=by
    cases lo with
    | some v=>exact DH hl
    | none=>simp at hl;omega
  refine⟨l,h,m,n,EJ hlo hhi hmx false ?_ ?_ ?_,hn,?_⟩
  · cases mx with
    | some v=>exact hm
    | none=>simp at hm;show m=len;omega
  · cases hi with
    | some v=>exact hh
    | none =>
      cases mx with
      | none=>simp at hh;exact⟨by omega,rfl⟩
      | some _=>simp at hh
  · cases lo with
    | some v=>exact hl
    | none=>simp at hl;show l=0;omega
  · by_cases e1 : m = l
    · rw[if_pos e1,show Nat.beq m l=true from by subst e1;simp]
      exact .slice hr (by omega)
    · rw[if_neg e1,show Nat.beq m l=false from by cases hb:Nat.beq m l with | true=>exact absurd (BB hb) e1 | false=>rfl,Ct,cond_false,rU]
      exact .slice hr (by omega)
theorem FI        (hI : By  P ρ s w) {t : TypeId} {x v : AV} {x' : Value} {lo hi mx : Option AV} {lo' hi' mx' : Option Value} (hs : An     P s t x lo hi mx = some v) (hx : Ad   ρ x x')
    (hlo:LB ρ lo lo') (hhi:LB ρ hi hi') (hmx:LB ρ mx mx'):
    ∃v',(Instr.sliceAt t x' lo' hi' mx').run P w=.ok v' w∧Ad ρ v v':=by
  unfold An at hs
  split at hs<;>first | (cases hs;done) | skip
  ·
    rename_i l
    simp only[qh]at hs
    obtain⟨_,h0,h,hh,o,ho,_,hu,hs⟩:=hs
    injection hs with hs;subst hs
    split at hu<;>first | (cases hu;done) | skip
    rename_i hu'
    cases hmx with
    | some _=>cases h0
    | none =>
      cases hx with
      | str he =>
        rename_i b
        subst he
        have hlen:(Fz b.data.toList).length=b.size:=GH b
        have hb:(Instr.sliceBounds false b.size b.size lo' hi' none).run P w=.ok (o,h,b.size) w:=by
          refine EJ hlo hhi .none false rfl ?_ ?_
          · cases hi with
            | some v=>simp only at hh;rw[hlen]at hh;exact hh
            | none=>simp only[Option.some.injEq]at hh;rw[hlen]at hh;exact⟨hh.symm,rfl⟩
          · cases lo with
            | some v=>exact ho
            | none=>simp only[Option.some.injEq]at ho;exact ho.symm
        refine⟨.string (b.extract o h),?_,.str (I0 b o h)⟩
        simp[Instr.sliceAt,Instr.slice,AO hu',hb]
  ·
    rename_i a len cap
    split at hs<;>first | (cases hs;done) | skip
    rename_i e hu
    simp only[qh]at hs
    obtain⟨n,hn,far,hfar,m,hm,h,hh,l,hl,hs⟩:=hs
    injection hs with hs;subst hs
    have key:∀ (a':Option Addr) (c M:Nat),x'=.slice a' len c→(Instr.sliceBounds true len c lo' hi' mx').run P w=.ok (l,h,M) w →
        (Instr.sliceAt t x' lo' hi' mx').run P w=.ok (.slice (if M=l then a' else a'.map (·.add (l * n))) (h - l) (M - l)) w:=by
      intro a' c M hx1 hb
      subst hx1
      simp[Instr.sliceAt,Instr.slice,AO hu,hb,BL hn]
    have hlh:l≤h:=by
      cases lo with
      | some v=>exact DH hl
      | none=>simp at hl;omega
    have hl':nL h l lo:=by
      cases lo with
      | some v=>exact hl
      | none=>simp at hl;show l=0;omega
    cases a with
    | none =>
      cases hx
      cases mx with
      | none =>
        simp only[Option.some.injEq]at hm hfar
        subst hm
        have hh0:h≤0:=by
          cases hi with
          | some v=>exact DH hh
          | none=>simp at hh;omega
        have hb:(Instr.sliceBounds true 0 0 lo' hi' mx').run P w=.ok (l,h,0) w:=by
          refine EJ hlo hhi hmx true rfl ?_ hl'
          cases hi with
          | some v=>exact hh
          | none=>simp at hh;exact⟨by omega,rfl⟩
        refine⟨_,key none 0 0 rfl hb,?_⟩
        have e1:h - l=0:=by omega
        simp only[e1,Option.map_none,Nat.zero_sub,ite_self]
        exact .sliceNil
      | some mv =>
        simp only[Option.some.injEq]at hfar
        subst hfar
        simp only[qh]at hm
        obtain⟨c,hc,hm⟩:=hm
        obtain⟨_,hm⟩:=AI hm
        injection hm with hm;subst hm
        have hc0:c≤0:=DH hc
        have hc0:c=0:=by omega
        subst hc0
        have hh0:h≤0:=by
          cases hi with
          | some v=>exact DH hh
          | none=>simp at hh
        have hb:(Instr.sliceBounds true 0 0 lo' hi' mx').run P w=.ok (l,h,0) w:=by
          refine EJ hlo hhi hmx true hc ?_ hl'
          cases hi with
          | some v=>exact hh
          | none=>simp at hh
        refine⟨_,key none 0 0 rfl hb,?_⟩
        have e1:h - l=0:=by omega
        simp only[e1,Option.map_none,Nat.zero_sub,ite_self]
        exact .sliceNil
    | some io =>
      obtain⟨i,o⟩:=io
      obtain⟨rb,ad,c,hr,hv,hlc,hexact,hopen⟩:=DE hx
      have hfc:far≤c∧(cap=none→ad=⟨rb.b,rb.off+o,none⟩∨far=0)∧(cap=none→rb.sz=n):=by
        cases cap with
        | some c0 =>
          obtain⟨rfl,_⟩:=hexact c0 rfl
          simp only[Option.some.injEq]at hfar
          exact⟨by omega,(fun q=>by cases q),fun q=>by cases q⟩
        | none =>
          simp only[qh]at hfar
          obtain⟨r,hrow,hfar⟩:=hfar
          obtain⟨hg,hfar⟩:=AI hfar
          injection hfar with hfar
          simp only[Bool.and_eq_true,Bool.not_eq_true',qu]at hg
          obtain⟨⟨g1,g2⟩,g3⟩:=hg
          have g2:=BB g2
          have hn0:0<n:=by
            rcases rh n with e0 | h'
            · subst e0;cases g3
            · exact h'
          have hok:F5 ρ w r rb:=hI.obj i _ rb (C0 hrow) hr
          have hsz:rb.sz=n:=by rw[← hok.sz];exact g2.symm
          have hle:=hok.le
          obtain⟨_,hc⟩:=hopen rfl
          rw[hsz]at hc
          rcases hc with⟨e1,c1,c2⟩ | ⟨e1,e2,c1,c2⟩
          · refine ⟨?_, fun _ => .inl e1, fun _ => hsz⟩
            rw[← hfar]
            exact Nat.lt_succ_iff.1 ((Nat.div_lt_iff_lt_mul hn0).2 (by rw[Nat.succ_eq_add_one];omega))
          · have:far=0:=by rw[← hfar];exact Nat.div_eq_of_lt (by omega)
            exact⟨by omega,fun _=>.inr this,fun _=>hsz⟩
      obtain⟨hfc,hfa,hsn⟩:=hfc
      subst hv
      cases mx with
      | some mv =>
        simp only[qh]at hm
        obtain⟨c1,hc1,hm⟩:=hm
        obtain⟨hg,hm⟩:=AI hm
        injection hm with hm;subst hm
        have had:ad=⟨rb.b,rb.off+o,none⟩:=by
          cases cap with
          | some c0=>exact(hexact c0 rfl).2
          | none =>
            rcases hfa rfl with h' | h'
            · exact h'
            · simp[rJ]at hg
              omega
        have hh1:h≤c1:=by
          cases hi with
          | some v=>exact DH hh
          | none=>simp at hh
        have hb:(Instr.sliceBounds true len c lo' hi' mx').run P w=.ok (l,h,c1) w:=by
          refine EJ hlo hhi hmx true (KN hc1 hfc) ?_ hl'
          cases hi with
          | some v=>exact hh
          | none=>simp at hh
        refine⟨_,key _ c c1 rfl hb,?_⟩
        subst had
        by_cases e1:c1=l
        · rw[if_pos e1]
          simp only[show Nat.beq c1 l=true from by subst e1;simp,cond_true]
          exact .slice hr (by omega)
        · rw[if_neg e1]
          simp only[show Nat.beq c1 l=false from by cases hb:Nat.beq c1 l with | true=>exact absurd (BB hb) e1 | false=>rfl,Ct,cond_false,rU,sT]
          exact .slice hr (by omega)
      | none =>
        simp only[Option.some.injEq]at hm
        subst hm
        cases cap with
        | some c0 =>
          obtain⟨rfl,had⟩:=hexact c0 rfl
          have hh1:h≤c:=by
            cases hi with
            | some v=>exact DH hh
            | none=>simp at hh;omega
          have hb:(Instr.sliceBounds true len c lo' hi' mx').run P w=.ok (l,h,c) w:=by
            refine EJ hlo hhi hmx true rfl ?_ hl'
            cases hi with
            | some v=>exact hh
            | none=>simp at hh;exact⟨by omega,rfl⟩
          refine⟨_,key _ c c rfl hb,?_⟩
          subst had
          by_cases e1:c=l
          · rw[if_pos e1]
            simp only[show Nat.beq c l=true from by subst e1;simp,cond_true]
            exact .slice hr (by omega)
          · rw[if_neg e1]
            simp only[show Nat.beq c l=false from by cases hb:Nat.beq c l with | true=>exact absurd (BB hb) e1 | false=>rfl,Ct,cond_false,rU,sT]
            exact .slice hr (by omega)
        | none =>
          obtain⟨hs0,hc⟩:=hopen rfl
          have hsn:=hsn rfl
          have hh1:h≤c:=by
            cases hi with
            | some v=>exact qs (DH hh) hfc
            | none=>simp at hh;omega
          have hb:(Instr.sliceBounds true len c lo' hi' mx').run P w=.ok (l,h,c) w:=by
            refine EJ hlo hhi hmx true rfl ?_ hl'
            cases hi with
            | some v=>exact KN hh hfc
            | none=>simp at hh;exact⟨by omega,rfl⟩
          refine⟨_,key _ c c rfl hb,?_⟩
          rw[hsn]at hc hs0
          simp only
          rcases hc with⟨rfl,c1,c2⟩ | ⟨rfl,rfl,c1,c2⟩
          · by_cases e1 : c = l
            · subst e1
              rw[if_pos rfl,show h - c=0 from by omega,ru]
              rw[rO,Nat.one_mul]at c2
              exact .sliceEnd hr (by omega) (by omega) (by rw[hsn];omega)
            · rw[if_neg e1]
              simp only[sT,Ct,rU]
              obtain⟨d,hd⟩:∃d,c=l+d:=⟨c - l,by omega⟩
              subst hd
              rw[show l+d - l=d from by omega]
              rw[rO]at c1
              rw[show(l+d+1) * n=l * n+(d+1) * n from by rw[← rO,rU]]at c2
              exact .sliceOpen hr (by omega) (by omega) (by rw[hsn];omega) (by rw[hsn];omega)
          · have:l=0:=by omega
            subst this
            have:h=0:=by omega
            subst this
            simp only[if_pos,ru,Nat.zero_mul,sC]
            exact .sliceEnd hr (by omega) c1 (by rw[hsn];omega)
  ·
    rename_i i o
    cases hx with
    | ptr hr =>
      rename_i rb
      split at hs<;>first | (cases hs;done) | skip
      · rename_i len e hu
        obtain⟨l,h,m,n,e1,e2,e3⟩:=W2 (P:=P) (w:=w) hlo hhi hmx hr hs
        exact⟨_,by simp only[Instr.sliceAt,Sem.run_bind,AO hu,Result.andThen_ok,Instr.sureAddr,Sem.run_pure,e1,BL e2],e3⟩
      · rename_i u hu
        split at hs<;>first | (cases hs;done) | skip
        rename_i len e hu2
        obtain⟨l,h,m,n,e1,e2,e3⟩:=W2 (P:=P) (w:=w) hlo hhi hmx hr hs
        exact⟨_,by simp only[Instr.sliceAt,Instr.slice,Sem.run_bind,AO hu,AO hu2,Result.andThen_ok,asAddr,Sem.run_pure,e1,BL e2],e3⟩
end
section
variable{P:Program}{ρ ρ1 ρ2:Bq}{s s1 s2:AE}{w w1 w2:World}
theorem M1(h:By P ρ s w){i o n size len:Nat}{cap:Option Nat}{x':Value}{l:List AV}(hx:Ad ρ (.slice (some (i,o)) len cap) x')(hn:n≤len)(hl:loadN s i o (n * size)=some l):
  ∃l':List Value,AX ρ l l'∧l'.length=n * size∧∀w1:World,w1.heap=w.heap→(Builtin.firstCells size n x').run P w1=.ok l'.toArray w1:=by
 obtain⟨rb,ad,c,hr,hv,hlc,hexact,hopen⟩:=DE hx
 subst hv
 obtain⟨l',e1,e2,e3⟩:=Ec h hr hl
 refine⟨l',e1,e2,fun w1 hw1=>?_⟩
 cases cap with
 | some c0=>obtain⟨_,rfl⟩:=hexact c0 rfl;exact e3 w1 hw1
 | none =>
  rcases(hopen rfl).2 with⟨rfl,_⟩ | ⟨rfl,_⟩
  ·exact e3 w1 hw1
  ·have h0:n=0:=by omega
   subst h0
   have:l'=[]:=by simpa using e2
   subst this
   simp[Builtin.firstCells,FW]
theorem JW(h:By P ρ s w){i o len size n:Nat}{cap:Option Nat}{ad:Addr}{c:Nat}{vs:List AV}{vs':List Value}(hx:Ad ρ (.slice (some (i,o)) len cap) (.slice (some ad) len c))
  (hv:AX ρ vs vs') (hlen:len=0→vs=[]) (hs:Cc s i o vs=some s1):∃w1,(storeCells ad vs').run P w=.ok () w1∧By P ρ s1 w1∧Fr ρ s w ρ s1 w1:=by
 obtain⟨rb,ad0,c0,hr,hv0,hlc,hexact,hopen⟩:=DE hx
 injection hv0 with q1 q2 q3
 injection q1 with q1
 subst q1;subst q3
 have exq:ad=⟨rb.b,rb.off+o,none⟩→∃w1,(storeCells ad vs').run P w=.ok () w1∧By P ρ s1 w1∧Fr ρ s w ρ s1 w1:=by
  intro e;subst e;exact Hq h hr hs hv
 cases cap with
 | some c0=>exact exq (hexact c0 rfl).2
 | none =>
  rcases(hopen rfl).2 with⟨e,_⟩ | ⟨e,_⟩
  ·exact exq e
  ·have:=hlen e
   subst this
   cases hv
   simp[Cc]at hs
   subst hs
   exact⟨w,rfl,h,Fr.refl _ _ _⟩
theorem aV       (h : By  P ρ s w) {tys : Array TypeId} {ty : TypeId} {args : List AV} {v : AV} {args' : Array Value} (hs : aU    P s tys.toList args = some (v, s1)) (ha : AX    ρ args args'.toList) :
    UO P ρ s w (Builtin.copy_ tys ty args') v s1:=by
  obtain⟨tyl⟩:=tys
  obtain⟨argl⟩:=args'
  simp only at hs ha
  unfold aU at hs
  split at hs<;>first | (cases hs;done) | skip
  rename_i dt tl a dl cap x
  cases ha with
  | cons ha hb =>
  rename_i a' l1
  cases hb with
  | cons hx hnil =>
  rename_i x' l2
  cases hnil
  split at hs<;>first | (cases hs;done) | skip
  rename_i e hu
  simp only[qh]at hs
  obtain⟨size,hsize,sl,hsl,cells,hcells,s',hst,hs⟩:=hs
  injection hs with hs
  injection hs with hs1 hs2
  subst hs1;subst hs2
  have hmin : (bif Nat.ble sl dl then sl else dl) = Nat.min sl dl := by
    cases hb:Nat.ble sl dl with
    | true => have : sl ≤ dl := by simpa [qu]         using hb
              simp only[cond_true];exact(sJ this).symm
    | false => have : dl ≤ sl := by
                 rcases Nat.le_total sl dl with h' | h'
                 · rw[Nat.ble_eq_true_of_le h']at hb;cases hb
                 · exact h'
               simp only[cond_false];exact(Nat.min_eq_right this).symm
  rw[hmin]at hcells ⊢
  have hlen:(Builtin.lenOf x').run P w=.ok sl w:=by
    split at hsl<;>first | (cases hsl;done) | skip
    · injection hsl with hsl;subst hsl
      cases hx<;>rfl
    · injection hsl with hsl;subst hsl
      cases hx with
      | str he=>subst he;rw[GH];rfl
  have hsrc:∃l':List Value,AX ρ cells l'∧(Builtin.firstCells size (Nat.min sl dl) x').run P w=.ok l'.toArray w∧(Nat.min sl dl=0→cells=[]):=by
    split at hcells<;>first | (cases hcells;done) | skip
    · injection hcells with hcells;subst hcells
      cases hx
      exact⟨[],.nil,rfl,fun _=>rfl⟩
    · simp only [Option.some.injEq] at hsl
      subst hsl
      obtain⟨l',e1,e2,e3⟩:=M1 h hx (Nat.min_le_left _ _) hcells
      refine⟨l',e1,e3 w rfl,fun h0=>?_⟩
      have:=e1.length
      rw[e2,show min _ dl=0 from h0,Nat.zero_mul]at this
      exact List.eq_nil_of_length_eq_zero this
    · rename_i l
      obtain⟨hg,hcells⟩:=AI hcells
      injection hcells with hcells;subst hcells
      cases hx with
      | str he =>
        rename_i b
        subst he
        refine⟨((b.extract 0 (Nat.min sl dl)).data.map fun b=>Value.int .u8 b.toNat).toList,?_,by simp only[Builtin.firstCells,Array.toArray_toList,Sem.run_pure],fun h0=>by rw[h0];rfl⟩
        have hk:∀l:List UInt8,AX ρ ((Fz l).map fun b=>AV.int .u8 (.ofNat b)) (l.map fun b=>Value.int .u8 b.toNat):=by
          intro l
          induction l with
          | nil=>exact .nil
          | cons a l ih=>exact .cons (.int _ _) ih
        have:=hk (b.extract 0 (Nat.min sl dl)).data.toList
        rw[I0]at this
        simpa using this
  obtain⟨l',e1,e2,e3⟩:=hsrc
  have hrun:∀ (base:Option Addr) (c:Nat),a'=.slice base dl c→∀w1,(match base with | some ad=>storeCells ad l' | none=>pure ()).run P w=.ok () w1 →
      (Builtin.copy_ ⟨dt::tl⟩ ty ⟨[a',x']⟩).run P w=.ok (.int .i64 (Nat.min sl dl:Nat)) w1:=by
    intro base c hb w1 hw1
    subst hb
    cases base with
    | none =>
      simp only[Sem.run_pure]at hw1
      injection hw1 with _ hw1
      subst hw1
      simp[Builtin.copy_,AO hu,hlen,BL hsize,e2,goInt]
    | some ad =>
      simp only at hw1
      simp[Builtin.copy_,AO hu,hlen,BL hsize,e2,hw1,goInt]
  cases a with
  | none =>
    simp only[Option.some.injEq]at hst
    subst hst
    cases ha
    exact⟨_,_,ρ,hrun none 0 rfl w rfl,.int _ _,h,Fr.refl _ _ _⟩
  | some io =>
    obtain⟨i,o⟩:=io
    simp only at hst
    obtain⟨rb,ad,c,hr,hv,_⟩:=DE ha
    subst hv
    obtain⟨w1,k1,k2,k3⟩:=JW (size:=0) (n:=0) h ha e1 (fun h0=>e3 (by subst h0;exact Nat.min_zero _)) hst
    exact⟨_,w1,ρ,hrun (some ad) c rfl w1 k1,.int _ _,k2,k3⟩
theorem Np(ρ:Bq){t:TypeId}{z:AV}(h:CF P t=some z):∃v,(∀w,(zeroValue t).run P w=.ok v w)∧Ad ρ z v:=by
  unfold CF at h
  split at h
  · split at h
    · rename_i i hi _ v hv
      exact⟨v,fun w=>by simp[zeroValue,typeInfo,hi,hv],CD ρ h⟩
    · cases h
  · cases h
theorem VU(h:By P ρ s w){tys:Array TypeId}{ty:TypeId}{args:List AV}{v:AV}{args':Array Value}(hs:FP P s tys.toList args=some (v,s1))(ha:AX ρ args args'.toList):
  UO P ρ s w (Builtin.clear_ tys ty args') v s1:=by
 obtain⟨tyl⟩:=tys
 obtain⟨argl⟩:=args'
 simp only at hs ha
 unfold FP at hs
 split at hs<;>first | (cases hs;done) | skip
 rename_i t tl x
 cases ha with
 | cons hx hb =>
 rename_i x' l1
 cases hb
 split at hs<;>first | (cases hs;done) | skip
 ·rename_i e n cap hu
  injection hs with hs
  injection hs with hs1 hs2
  subst hs1;subst hs2
  cases hx
  exact⟨_,w,ρ,by simp[Builtin.clear_,AO hu];rfl,Du ρ,h,Fr.refl _ _ _⟩
 ·have hu:=‹P.underlying t=some (TypeDesc.slice _)›
  injection hs with hs
  injection hs with hs1 hs2
  subst hs1;subst hs2
  cases hx<;>exact⟨_,w,ρ,by simp[Builtin.clear_,AO hu];rfl,Du ρ,h,Fr.refl _ _ _⟩
 ·rename_i e i o n cap hn hu
  simp only[qh]at hs
  obtain⟨z,hz,s',hst,hs⟩:=hs
  injection hs with hs
  injection hs with hs1 hs2
  subst hs1;subst hs2
  obtain⟨z',hz1,hz2⟩:=Np ρ hz
  obtain⟨rb,ad,c,hr,hv,_⟩:=DE hx
  subst hv
  have hl:=hz2.cells.length
  obtain⟨w1,k1,k2,k3⟩:=JW (size:=0) (n:=0) h hx (IF hz2 rfl (by simpa using hl.symm) n) (fun h0=>by subst h0;rfl) hst
  refine⟨_,w1,ρ,?_,Du ρ,k2,k3⟩
  cases n with
  | zero=>exact absurd rfl hn
  | succ n=>simp[Builtin.clear_,AO hu,hz1,k1,undef]
theorem De{t:TypeId}{k:AV}{k':Value}(h:CG P t k=true)(hk:Ad ρ k k')(e:Bool)(n:Nat):(Instr.checkKey e (n+1) t k').run P w=.ok () w:=by
 unfold CG at h
 split at h<;>first | (cases h;done) | skip
 ·split at h<;>first | (cases h;done) | skip
  rename_i hu
  cases hk
  simp[Instr.checkKey,AO hu]
 ·split at h<;>first | (cases h;done) | skip
  rename_i hu
  cases hk
  simp[Instr.checkKey,AO hu]
theorem D8{t:TypeId}{k:AV}(h:CG P t k=true):∃d,P.underlying t=some d∧((∃kd kd' n,d=.int kd'∧k=.int kd n)∨(d=.string∧∃l,k=.str l)):=by
 unfold CG at h
 split at h<;>first | (cases h;done) | skip
 ·split at h<;>first | (cases h;done) | skip
  rename_i hu
  exact⟨_,hu,.inl ⟨_,_,_,rfl,rfl⟩⟩
 ·split at h<;>first | (cases h;done) | skip
  rename_i hu
  exact⟨_,hu,.inr ⟨rfl,_,rfl⟩⟩
theorem bC       {t : TypeId} {k k0 : AV} {k' k0' : Value} {b : Bool} (hsk : CG        P t k = true) (hb : MH    k k0 = some b) (hk : Ad   ρ k k') (hk0 : Ad   ρ k0 k0') :
    ∀d,P.underlying t=some d→Instr.sameNow d k' k0'=some b∧(b=true→k0'=k'):=by
  intro d hd
  obtain⟨d',hd',hc⟩:=D8 hsk
  rw[hd]at hd'
  injection hd' with hd'
  subst hd'
  rcases hc with⟨kd,kd',n,rfl,rfl⟩ | ⟨rfl,l,rfl⟩
  · cases k0<;>first | (simp[MH]at hb;done) | skip
    rename_i kd2 n2
    simp only[MH]at hb
    obtain⟨hg,hb2⟩:=AI hb
    clear hb
    injection hb2 with hb2
    have:=Fq hg
    clear hg
    subst this
    cases hk;cases hk0
    rw[GQ]at hb2
    subst hb2
    refine⟨by simp[Instr.sameNow],fun e=>?_⟩
    have:n=n2:=by simpa using e
    rw[this]
  · cases k0<;>first | (simp[MH]at hb;done) | skip
    rename_i l2
    simp only[MH,Option.some.injEq]at hb
    cases hk with
    | str h1 =>
    cases hk0 with
    | str h2 =>
      rename_i s1 s2
      subst h1;subst h2
      rw[Ie]at hb
      have hq:(s1.data == s2.data)=b:=by
        rw[← hb,Bool.eq_iff_iff,beq_iff_eq,beq_iff_eq]
        exact⟨fun e=>by rw[e],fun e=>Array.ext' e⟩
      refine⟨congrArg some (show(s1 == s2)=b from hq),fun e=>?_⟩
      subst e
      have:s1.data=s2.data:=by simpa using hq
      cases s1;cases s2
      simp only at this
      rw[this]
theorem L4       {t : TypeId} {k : AV} {k' : Value} {d : TypeDesc} (hd : P.underlying t = some d) (hsk : CG        P t k = true) (hk : Ad   ρ k k') :
    ∀ {es:List (AV×AV×Nat)} {es':List MapEntry} {i:Nat} {r:Option (Nat×AV×Nat)},D1 k es i=some r→Ew ρ es es' →
      match r with
      | none=>Instr.findNow d k' es' i=some none
      | some (j,v,b)=>∃v' e' m,Instr.findNow d k' es' i=some (some (j,v'))∧Ad ρ v v'∧j=i+m∧es'[m]? = some e'∧e'.key=k'∧e'.val=v':=by
  intro es es' i r h he
  induction he generalizing i r with
  | nil=>simp[D1]at h;subst h;rfl
  | cons hk0 hv hb hs ih =>
    rename_i k0 v0 b0 e0 l l'
    simp only[D1,qh]at h
    obtain⟨b,hb',h⟩:=h
    obtain⟨h1,h2⟩:=bC hsk hb' hk hk0 d hd
    cases b with
    | true =>
      simp only[Option.some.injEq]at h
      subst h
      exact⟨e0.val,e0,0,by simp[Instr.findNow,h1],hv,rfl,rfl,h2 rfl,rfl⟩
    | false =>
      simp only at h
      have:=ih h
      cases r with
      | none=>simpa[Instr.findNow,h1]using this
      | some q =>
        obtain⟨j,v,b⟩:=q
        obtain⟨v',e',m,q1,q2,q3,q4,q5,q6⟩:=this
        exact⟨v',e',m+1,by simp[Instr.findNow,h1,q1],q2,by omega,by simpa using q4,q5,q6⟩
theorem Dt{t:TypeId}{k':Value}{d:TypeDesc}{es':List MapEntry}{r:Option (Nat×Value)}(hd:P.underlying t=some d)(h:Instr.findNow d k' es' 0=some r):
  (Instr.findKey t k' es').run P w=.ok r w:=by simp[Instr.findKey,AO hd,h]
theorem Fc{b:Nat}{es:Array MapEntry}{c:Nat}(h:w.heap[b]? = some (.map es c)):(getObj b).run P w=.ok (.map es c) w:=by simp[getObj,Sem.run,h]
theorem GX{b:Nat}{es:Array MapEntry}{c:Nat}(o:Obj)(h:w.heap[b]? = some (.map es c)):(Go.setObj b o).run P w=.ok () { w with heap:=w.heap.setIfInBounds b o }:=by simp[Go.setObj,Sem.run,h]
theorem Ti         (h : By  P ρ s w) {t : TypeId} {m k v : AV} {m' k' : Value} {ok : Bool} (hs : DK      P s t m k ok = some v) (hm : Ad   ρ m m') (hk : Ad   ρ k k') :
    ∃v',(Instr.lookup t m' k' ok).run P w=.ok v' w∧Ad ρ v v':=by
  unfold DK at hs
  split at hs<;>first | (cases hs;done) | skip
  rename_i kt et hu
  obtain⟨hsk,hg⟩:=AI hs
  clear hs
  simp only[qh]at hg
  obtain⟨es,hes,r,hf,p,hp,hg⟩:=hg
  injection hg with hg
  obtain⟨d,hd,_⟩:=D8 hsk
  have hent:∃es':Array MapEntry,Ew ρ es es'.toList∧(∀f:Array MapEntry→Sem Value,(do
      let es ← match m' with
        | .map none=>pure #[]
        | .map (some r)=>do
          let .map es _ ← getObj r | stuck "Lookup: map expected"
          pure es
        | _ => stuck "Lookup: map expected"
      f es:Sem Value).run P w=(f es').run P w):=by
    split at hes<;>first | (cases hes;done) | skip
    · injection hes with hes;subst hes
      cases hm
      exact⟨#[],.nil,fun f=>by simp⟩
    · split at hes<;>first | (cases hes;done) | skip
      rename_i i _ es0 clock hget
      injection hes with hes;subst hes
      cases hm with
      | map hr =>
        rename_i rb
        obtain⟨es',e1,e2⟩:∃es':Array MapEntry,w.heap[rb.b]? = some (Obj.map es' clock)∧Ew ρ es0 es'.toList:=h.obj i _ rb hget hr
        exact⟨es',e2,fun f=>by simp[Fc e1]⟩
  obtain⟨es',he,hrun⟩:=hent
  have hck:=fun(w:World)=>De (w:=w) hsk hk es'.isEmpty 9999
  have hfk:=L4 hd hsk hk hf he
  have main:∃v':Value,Ad ρ p.1 v'∧(Instr.lookup t m' k' ok).run P w=.ok (if ok then .tuple #[v',.bool p.2]else v') w:=by
    unfold Instr.lookup
    rw[Sem.run_bind,AO hu]
    simp only[Result.andThen_ok]
    cases r with
    | none =>
      simp only at hfk
      simp only[qh]at hp
      obtain⟨z,hz,hp⟩:=hp
      injection hp with hp;subst hp
      obtain⟨z',hz1,hz2⟩:=Np ρ hz
      refine⟨z',hz2,?_⟩
      refine(hrun _).trans ?_
      simp[hck w,Dt hd hfk,hz1]
    | some q =>
      obtain⟨j,v0,b⟩:=q
      simp only[Option.some.injEq]at hp
      subst hp
      obtain⟨v',e',m,q1,q2,_⟩:=hfk
      refine⟨v',q2,?_⟩
      refine(hrun _).trans ?_
      simp[hck w,Dt hd q1]
  obtain⟨v',m1,m2⟩:=main
  refine⟨_,m2,?_⟩
  subst hg
  cases ok with
  | true=>exact .tuple (.cons m1 (.cons (.bool _) .nil))
  | false=>exact m1
theorem Ew.setNth{es:List (AV×AV×Nat)}{es':List MapEntry}(h:Ew ρ es es'){v:AV}{k' v':Value}(hv:Ad ρ v v'):∀ {m:Nat}{e':MapEntry},es'[m]? = some e'→e'.key=k' →
  Ew ρ (setNth es m v) (es'.modify m fun e=>{ e with key:=k',val:=v' }):=by
 induction h with
 | nil=>intro m e' h1;simp at h1
 | cons hk0 hv0 hb0 hs ih =>
  intro m e' h1 h2
  cases m with
  | zero =>
   simp at h1
   subst h1
   subst h2
   exact .cons hk0 hv hb0 hs
  | succ m=>exact .cons hk0 hv0 hb0 (ih (by simpa using h1) h2)
theorem Ew.delNth{es:List (AV×AV×Nat)}{es':List MapEntry}(h:Ew ρ es es'):∀ (m:Nat),Ew ρ (delNth es m) (es'.eraseIdx m):=by
 induction h with
 | nil=>intro m;simp[Go.Proofs.Ytilhhmkdcoajnaa.Am.delNth];exact .nil
 | cons hk0 hv0 hb0 hs ih =>
  intro m
  cases m with
  | zero=>exact hs
  | succ m=>exact .cons hk0 hv0 hb0 (ih m)
theorem Ew.append{es fs:List (AV×AV×Nat)}{es' fs':List MapEntry}(h:Ew ρ es es')(k:Ew ρ fs fs'):Ew ρ (es++fs) (es'++fs'):=by
 induction h with
 | nil=>exact k
 | cons hk0 hv0 hb0 hs ih=>exact .cons hk0 hv0 hb0 ih
theorem cB       {k : AV} {k' : Value} {t : TypeId} (hsk : CG        P t k = true) (hk : Ad   ρ k k') : (Instr.keyThatStays k' k').run P w = .ok k' w := by
  have:Instr.sameBits 10000 k' k'=true:=by
    unfold CG at hsk
    split at hsk<;>first | (cases hsk;done) | skip
    · cases hk;simp[Instr.sameBits]
    · cases hk with
      | str _ =>
        rename_i s _
        show(s.data == s.data)=true
        simp
  simp[Instr.keyThatStays,this]
theorem KA(h:By P ρ s w){i clock clock1:Nat}{es es1:List (AV×AV×Nat)}{es' es1':Array MapEntry}{rb:RB}(hg:s.heap.get i=some (.map es clock))(hr:ρ i=some rb)
  (hb:w.heap[rb.b]? = some (.map es' clock)) (he:Ew ρ es1 es1'.toList):
  By P ρ (setObj s i (.map es1 clock1)) { w with heap:=w.heap.setIfInBounds rb.b (.map es1' clock1) } ∧
   Fr ρ s w ρ (setObj s i (.map es1 clock1)) { w with heap:=w.heap.setIfInBounds rb.b (.map es1' clock1) }:=by
 have hlt:=h.lt i rb hr
 exact h.set hg hr rfl (fun p hp=>by cases hp) rfl (by simp) (fun b hne=>by simp[Array.getElem?_setIfInBounds_ne (Ne.symm hne)]) rfl rfl rfl
  ⟨es1',by simp[hlt],he⟩
theorem Mr         (h : By  P ρ s w) {t : TypeId} {m k v : AV} {m' k' v' : Value} (hs : EV      P s t m k v = some s1) (hm : Ad   ρ m m') (hk : Ad   ρ k k') (hv : Ad   ρ v v') :
    ∃w1,(Instr.mapUpdate t m' k' v').run P w=.ok () w1∧By P ρ s1 w1∧Fr ρ s w ρ s1 w1:=by
  unfold EV at hs
  split at hs<;>first | (cases hs;done) | skip
  rename_i kt et i hu
  obtain⟨hsk,hg⟩:=AI hs
  clear hs
  split at hg<;>first | (cases hg;done) | skip
  rename_i es clock hget
  simp only[qh]at hg
  obtain⟨r,hf,hg⟩:=hg
  obtain⟨d,hd,_⟩:=D8 hsk
  cases hm with
  | map hr =>
    rename_i rb
    obtain⟨es',e1,e2⟩:∃es':Array MapEntry,w.heap[rb.b]? = some (Obj.map es' clock)∧Ew ρ es es'.toList:=h.obj i _ rb hget hr
    have hfk:=L4 hd hsk hk hf e2
    have hck:=fun(w:World)=>De (w:=w) hsk hk false 9999
    split at hg
    · rename_i j v0 b0
      injection hg with hg
      subst hg
      obtain⟨v0',e',m,q1,q2,q3,q4,q5,q6⟩:=hfk
      have hjm:j=m:=by omega
      subst hjm
      have hes1:=e2.setNth hv q4 q5
      have hr1:=KA (clock1:=clock) (es1':=es'.modify j fun e=>{ e with key:=k',val:=v' }) h hget hr e1 (by rw[Array.toList_modify];exact hes1)
      refine⟨_,?_,hr1.1,hr1.2⟩
      have hkey:((es'[j]?.map (·.key)).getD k')=k':=by
        rw[Array.getElem?_toList]at q4
        simp[q4,q5]
      simp[Instr.mapUpdate,AO hu,Fc e1,hck w,Dt hd q1,hkey,cB hsk hk,GX _ e1]
    · injection hg with hg
      subst hg
      have hr1:=KA (clock1:=clock+1) (es1':=es'.push { key:=k',val:=v',born:=clock }) h hget hr e1 (by
        rw[Array.toList_push]
        exact e2.append (.cons hk hv rfl .nil))
      refine⟨_,?_,hr1.1,hr1.2⟩
      simp[Instr.mapUpdate,AO hu,Fc e1,hck w,Dt hd hfk,GX _ e1]
theorem TO         (h : By  P ρ s w) {t ty : TypeId} {m k : AV} {m' k' : Value} {tys : Array TypeId} (ht : tys[0]? = some t) (hs : Ku      P s t m k = some s1) (hm : Ad   ρ m m') (hk : Ad   ρ k k') :
    ∃w1,(Builtin.delete_ tys ty #[m',k']).run P w=.ok undef w1∧By P ρ s1 w1∧Fr ρ s w ρ s1 w1:=by
  unfold Ku at hs
  split at hs<;>first | (cases hs;done) | skip
  rename_i kt et hu
  obtain⟨hsk,hg⟩:=AI hs
  clear hs
  obtain⟨d,hd,_⟩:=D8 hsk
  split at hg<;>first | (cases hg;done) | skip
  · injection hg with hg;subst hg
    cases hm
    exact⟨w,by simp[Builtin.delete_,ht,AO hu,De hsk hk,undef],h,Fr.refl _ _ _⟩
  · rename_i i
    split at hg<;>first | (cases hg;done) | skip
    rename_i es clock hget
    simp only[qh]at hg
    obtain⟨r,hf,hg⟩:=hg
    cases hm with
    | map hr =>
      rename_i rb
      obtain⟨es',e1,e2⟩:∃es':Array MapEntry,w.heap[rb.b]? = some (Obj.map es' clock)∧Ew ρ es es'.toList:=h.obj i _ rb hget hr
      have hfk:=L4 hd hsk hk hf e2
      have hck:=fun(w:World)=>De (w:=w) hsk hk es'.isEmpty 9999
      split at hg
      · rename_i j v0 b0
        injection hg with hg
        subst hg
        obtain⟨v0',e',m,q1,q2,q3,q4,q5,q6⟩:=hfk
        have hjm:j=m:=by omega
        subst hjm
        have hr1:=KA (clock1:=clock) (es1':=es'.eraseIdxIfInBounds j) h hget hr e1 (by
          rw[Array.toList_eraseIdxIfInBounds]
          exact e2.delNth j)
        refine⟨_,?_,hr1.1,hr1.2⟩
        simp[Builtin.delete_,ht,AO hu,Fc e1,hck w,Dt hd q1,GX _ e1,undef]
      · injection hg with hg
        subst hg
        have hlt:=h.lt i rb hr
        have hsame:w.heap.setIfInBounds rb.b (.map es' clock)=w.heap:=by
          apply Array.ext (by simp)
          intro j hj1 hj2
          by_cases e:rb.b=j
          · subst e
            rw[Array.getElem?_eq_getElem hlt]at e1
            injection e1 with e1
            simp[e1]
          · rw[Array.getElem_setIfInBounds_ne hj2 e]
        refine⟨w,?_,h,Fr.refl _ _ _⟩
        simp[Builtin.delete_,ht,AO hu,Fc e1,hck w,Dt hd hfk,GX _ e1,undef,hsame]
end
def KB(sh:Sh)(aS:List AV)(s:AE):Option (AV×AE):=
 match sh with
 | .p1 f=>(match aS with | a::_=>EG s (f a) | []=>none)
 | .p2 f=>(match aS with | a::b::_=>EG s (f a b) | _=>none)
 | .p f=>EG s (f aS)
 | .r1 f=>(match aS with | a::_=>EG s (f s a) | []=>none)
 | .r f=>EG s (f s aS)
 | .mk f=>QR s (f aS)
 | .e f=>f s aS
 | .call _ | .callv=>none
section
variable{P:Program}{ρ ρ1 ρ2:Bq}{s s1 s2:AE}{w w1 w2:World}
theorem Cd{x:Option AV}{v:AV}(h:EG s x=some (v,s1)):x=some v∧s1=s:=by
 cases x with
 | none=>cases h
 | some u=>injection h with h;injection h with h1 h2;exact⟨by rw[h1],h2.symm⟩
theorem Tl{x:Option (C8×Made)}{v:AV}(h:QR s x=some (v,s1)):∃o m,x=some (o,m)∧v=m.val s.next∧s1=newObj s o:=by
 cases x with
 | none=>cases h
 | some u=>injection h with h;injection h with h1 h2;exact⟨u.1,u.2,rfl,h1.symm,h2.symm⟩
theorem Gb{x:Option AE}{v:AV}(h:AS x=some (v,s1)):x=some s1∧v=Ar:=by
 cases x with
 | none=>cases h
 | some u=>injection h with h;injection h with h1 h2;exact⟨by rw[h2],h1.symm⟩
theorem Id{f:AV→Option AV}{a v:AV}(h:KB (.p1 f) [a] s=some (v,s1)):f a=some v∧s1=s:=Cd h
theorem Tz{f:AV→AV→Option AV}{a b v:AV}(h:KB (.p2 f) [a,b] s=some (v,s1)):f a b=some v∧s1=s:=Cd h
theorem Nq{f:List AV→Option AV}{aS:List AV}{v:AV}(h:KB (.p f) aS s=some (v,s1)):f aS=some v∧s1=s:=Cd h
theorem T0{f:AE→AV→Option AV}{a v:AV}(h:KB (.r1 f) [a] s=some (v,s1)):f s a=some v∧s1=s:=Cd h
theorem RF{f:AE→List AV→Option AV}{aS:List AV}{v:AV}(h:KB (.r f) aS s=some (v,s1)):f s aS=some v∧s1=s:=Cd h
theorem KC{f:List AV→Option (C8×Made)}{aS:List AV}{v:AV}(h:KB (.mk f) aS s=some (v,s1)):∃o m,f aS=some (o,m)∧v=m.val s.next∧s1=newObj s o:=Tl h
theorem cG{f:AE→List AV→Option (AV×AE)}{aS:List AV}{v:AV}(h:KB (.e f) aS s=some (v,s1)):f s aS=some (v,s1):=h
def Cp(P:Program)(ρ:Bq)(s:AE)(w:World)(sem:Sem Next)(v:AV)(s':AE):Prop:=
 ∃v' w' ρ',(sem.run P w=.ok (.value v') w'∨(sem.run P w=.ok .skip w'∧v'=undef))∧Ad ρ' v v'∧By P ρ' s' w'∧Fr ρ s w ρ' s' w'
theorem Cp.pure(h:By P ρ s w){sem:Sem Value}{v:AV}(hr:∃v',sem.run P w=.ok v' w∧Ad ρ v v'):Cp P ρ s w (do Pure.pure (Next.value (← sem))) v s:=by
 obtain⟨v',h1,h2⟩:=hr
 exact⟨v',w,ρ,.inl (by simp[h1]),h2,h,Fr.refl _ _ _⟩
theorem Cp.eff{sem:Sem Value}{v:AV}(hr:UO P ρ s w sem v s1):Cp P ρ s w (do Pure.pure (Next.value (← sem))) v s1:=by
 obtain⟨v',w',ρ',h1,h2,h3,h4⟩:=hr
 exact⟨v',w',ρ',.inl (by simp[h1]),h2,h3,h4⟩
theorem Cp.new{sem:Sem Value}{o:C8}{m:Made}(hr:ND P ρ s w sem o m):Cp P ρ s w (do Pure.pure (Next.value (← sem))) (m.val s.next) (newObj s o):=by
 obtain⟨v',w',ρ',h1,h2,h3,h4⟩:=hr
 exact⟨v',w',ρ',.inl (by simp[h1]),h2,h3,h4⟩
theorem Cp.unit{sem:Sem Unit}(hr:∃w',sem.run P w=.ok () w'∧By P ρ s1 w'∧Fr ρ s w ρ s1 w'):Cp P ρ s w (do sem;Pure.pure Next.skip) Ar s1:=by
 obtain⟨w',h1,h2,h3⟩:=hr
 exact⟨undef,w',ρ,.inr ⟨by simp[h1],rfl⟩,Du ρ,h2,h3⟩
theorem AX.one{a:List AV}{x':Value}(h:AX ρ a [x']):∃x,a=[x]∧Ad ρ x x':=by
 cases h with
 | cons h hs=>cases hs;exact⟨_,rfl,h⟩
theorem AX.two{a:List AV}{x' y':Value}(h:AX ρ a [x',y']):∃x y,a=[x,y]∧Ad ρ x x'∧Ad ρ y y':=by
 cases h with
 | cons h hs=>obtain⟨y,rfl,hy⟩:=hs.one;exact⟨_,y,rfl,h,hy⟩
theorem AX.three{a:List AV}{x' y' z':Value}(h:AX ρ a [x',y',z']):∃x y z,a=[x,y,z]∧Ad ρ x x'∧Ad ρ y y'∧Ad ρ z z':=by
 cases h with
 | cons h hs=>obtain⟨y,z,rfl,hy,hz⟩:=hs.two;exact⟨_,y,z,rfl,h,hy,hz⟩
theorem Ny{ps:Array (Nat×Operand)}{ev:Operand→Value}{aS:List AV}(h:AX ρ aS ((ps.toList.map (·.2)).map ev)):
    (zipIdx (ps.toList.map (·.1)) aS).map (·.1)=(ps.map fun(p:Nat×Operand)=>(p.1,ev p.2)).toList.map (·.1) ∧
      AX ρ ((zipIdx (ps.toList.map (·.1)) aS).map (·.2)) ((ps.map fun(p:Nat×Operand)=>(p.1,ev p.2)).toList.map (·.2)):=by
  have hlen:=h.length
  simp only[qi]at hlen
  unfold zipIdx
  constructor
  · rw [List.map_fst_zip]
    · simp[Function.comp_def]
    · simp[hlen]
  · rw [List.map_snd_zip]
    · simpa[Function.comp_def]using h
    · simp[hlen]
theorem M8            (hI : By  P ρ s w) {t : TypeId} {x : Operand} {lo hi mx : Option Operand} {ev : Operand → Value} {aS : List AV} {v : AV}
    (h:AX ρ aS (([x]++lo.toList++hi.toList++mx.toList).map ev)) (hs:AU P t lo.isSome hi.isSome mx.isSome s aS=some v):
    ∃v',(Instr.sliceAt t (ev x) (lo.map ev) (hi.map ev) (mx.map ev)).run P w=.ok v' w∧Ad ρ v v':=by
  cases lo with
  | none =>
    cases hi with
    | none =>
      cases mx with
      | none=>obtain⟨x,rfl,hx⟩:=AX.one h;exact FI hI (show An P s t _ none none none=some v from hs) hx .none .none .none
      | some m=>obtain⟨x,y,rfl,hx,hy⟩:=AX.two h;simp[AU]at hs
    | some hh =>
      cases mx with
      | none=>obtain⟨x,y,rfl,hx,hy⟩:=AX.two h;exact FI hI (show An P s t _ none (some y) none=some v from hs) hx .none (.some hy) .none
      | some m=>obtain⟨x,y,z,rfl,hx,hy,hz⟩:=AX.three h;exact FI hI (show An P s t _ none (some y) (some z)=some v from hs) hx .none (.some hy) (.some hz)
  | some l =>
    cases hi with
    | none =>
      cases mx with
      | none=>obtain⟨x,y,rfl,hx,hy⟩:=AX.two h;exact FI hI (show An P s t _ (some y) none none=some v from hs) hx (.some hy) .none .none
      | some m=>obtain⟨x,y,z,rfl,hx,hy,hz⟩:=AX.three h;simp[AU]at hs
    | some hh =>
      cases mx with
      | none=>obtain⟨x,y,z,rfl,hx,hy,hz⟩:=AX.three h;exact FI hI (show An P s t _ (some y) (some z) none=some v from hs) hx (.some hy) (.some hz) .none
      | some m =>
        cases h with
        | cons hx h =>
          obtain⟨y,z,u,rfl,hy,hz,hu⟩:=AX.three h
          exact FI hI (show An P s t _ (some y) (some z) (some u)=some v from hs) hx (.some hy) (.some hz) (.some hu)
theorem kE    (h : By  P ρ s w) (hf : ρ s.next = none) {o : Oper} {sh : Sh} {xs : List Operand} {ev : Operand → Value} {aS : List AV} {v : AV} (hsh : Bi      P o.op = some (sh, xs)) (has : AX    ρ aS (xs.map ev))
    (hr:KB sh aS s=some (v,s1)):Cp P ρ s w (execOp ev o) v s1:=by
  cases ho:o.op<;>rw[ho]at hsh<;>first | (simp[Bi]at hsh;done) | skip
  case move x =>
    injection hsh with hsh;injection hsh with h1 h2;subst h1;subst h2
    obtain⟨a,rfl,ha⟩:=AX.one has
    obtain⟨hv,rfl⟩:=Id hr
    injection hv with hv;subst hv
    exact⟨_,w,ρ,.inl (by simp[execOp,ho]),ha,h,Fr.refl _ _ _⟩
  case assign x =>
    injection hsh with hsh;injection hsh with h1 h2;subst h1;subst h2
    obtain⟨a,rfl,ha⟩:=AX.one has
    obtain⟨hv,rfl⟩:=Id hr
    injection hv with hv;subst hv
    exact⟨_,w,ρ,.inl (by simp[execOp,ho]),ha,h,Fr.refl _ _ _⟩
  case pick c a b =>
    injection hsh with hsh;injection hsh with h1 h2;subst h1;subst h2
    obtain⟨x,y,z,rfl,hx,hy,hz⟩:=AX.three has
    obtain⟨hv,rfl⟩:=Nq hr
    simp only[Rn,Ro]at hv
    split at hv<;>first | (cases hv;done) | skip
    · injection hv with hv;subst hv
      generalize hc:ev c=c' at hx
      cases hx
      exact⟨_,w,ρ,.inl (by simp[execOp,ho,hc,asBool]),hy,h,Fr.refl _ _ _⟩
    · injection hv with hv;subst hv
      generalize hc:ev c=c' at hx
      cases hx
      exact⟨_,w,ρ,.inl (by simp[execOp,ho,hc,asBool]),hz,h,Fr.refl _ _ _⟩
  case build t ps =>
    injection hsh with hsh;injection hsh with h1 h2;subst h1;subst h2
    obtain⟨hv,rfl⟩:=Nq hr
    obtain⟨z1,z2⟩:=Ny has
    simp only[execOp,ho]
    exact Cp.pure h (VR hv z1 z2 w)
  case nilCheck x =>
    injection hsh with hsh;injection hsh with h1 h2;subst h1;subst h2
    obtain⟨a,rfl,ha⟩:=AX.one has
    obtain⟨hv,rfl⟩:=Id hr
    obtain⟨v',e1,e2⟩:=Ov (P:=P) (w:=w) hv ha ev o x ho rfl
    exact⟨v',w,ρ,.inl e1,e2,h,Fr.refl _ _ _⟩
  case binOp op t x y f =>
    injection hsh with hsh;injection hsh with h1 h2;subst h1;subst h2
    obtain⟨a,b,rfl,ha,hb⟩:=AX.two has
    obtain⟨hv,rfl⟩:=Tz hr
    simp only[execOp,ho]
    exact Cp.pure h (cy hv ha hb _ _)
  case unOp op t x =>
    injection hsh with hsh;injection hsh with h1 h2;subst h1;subst h2
    obtain⟨a,rfl,ha⟩:=AX.one has
    obtain⟨hv,rfl⟩:=Id hr
    simp only[execOp,ho]
    exact Cp.pure h (mh hv ha)
  case makeFunc fn first captured =>
    simp only[Bi]at hsh
    split at hsh<;>first | (cases hsh;done) | skip
    rename_i f
    injection hsh with hsh;injection hsh with h1 h2;subst h1;subst h2
    obtain⟨hv,rfl⟩:=Nq hr
    injection hv with hv;subst hv
    rw[rN]at has
    refine⟨.func (.func f) (first.map ev) (captured.map ev),w,ρ,.inl (by simp[execOp,ho,Instr.makeFunc]),.func ?_ ?_,h,Fr.refl _ _ _⟩
    · have:=has.take first.size
      simpa[sU]using this
    · have:=has.drop first.size
      simpa[List.drop_left']using this
  case fieldAddr t x f =>
    injection hsh with hsh;injection hsh with h1 h2;subst h1;subst h2
    obtain⟨a,rfl,ha⟩:=AX.one has
    obtain⟨hv,rfl⟩:=Id hr
    simp only[execOp,ho]
    exact Cp.pure h (M0 hv ha)
  case field t x f =>
    injection hsh with hsh;injection hsh with h1 h2;subst h1;subst h2
    obtain⟨a,rfl,ha⟩:=AX.one has
    obtain⟨hv,rfl⟩:=Id hr
    simp only[execOp,ho]
    exact Cp.pure h (Vg hv ha)
  case indexAddr t x i =>
    injection hsh with hsh;injection hsh with h1 h2;subst h1;subst h2
    obtain⟨a,b,rfl,ha,hb⟩:=AX.two has
    obtain⟨hv,rfl⟩:=Tz hr
    simp only[execOp,ho]
    exact Cp.pure h (M5 hv ha hb)
  case index t x i =>
    injection hsh with hsh;injection hsh with h1 h2;subst h1;subst h2
    obtain⟨a,b,rfl,ha,hb⟩:=AX.two has
    obtain⟨hv,rfl⟩:=Tz hr
    simp only[execOp,ho]
    exact Cp.pure h (Vp hv ha hb)
  case extract t i =>
    injection hsh with hsh;injection hsh with h1 h2;subst h1;subst h2
    obtain⟨a,rfl,ha⟩:=AX.one has
    obtain⟨hv,rfl⟩:=Id hr
    simp only[execOp,ho]
    exact Cp.pure h (P6 hv ha)
  case load t a =>
    injection hsh with hsh;injection hsh with h1 h2;subst h1;subst h2
    obtain⟨a,rfl,ha⟩:=AX.one has
    obtain⟨hv,rfl⟩:=T0 hr
    simp only[execOp,ho]
    obtain⟨v',e1,e2,_⟩:=QM h hv ha
    exact Cp.pure h ⟨v',e1,e2⟩
  case lookup t m k ok =>
    injection hsh with hsh;injection hsh with h1 h2;subst h1;subst h2
    obtain⟨a,b,rfl,ha,hb⟩:=AX.two has
    obtain⟨hv,rfl⟩:=RF hr
    simp only[execOp,ho]
    exact Cp.pure h (Ti h hv ha hb)
  case convert src dst x =>
    injection hsh with hsh;injection hsh with h1 h2;subst h1;subst h2
    obtain⟨a,rfl,ha⟩:=AX.one has
    obtain⟨hv,rfl⟩:=T0 hr
    simp only[execOp,ho]
    exact Cp.pure h (aT h hv ha)
  case slice t x lo hi mx =>
    injection hsh with hsh;injection hsh with h1 h2;subst h1;subst h2
    obtain⟨hv,rfl⟩:=RF hr
    simp only[execOp,ho]
    exact Cp.pure h (M8 h has hv)
  case alloc e =>
    injection hsh with hsh;injection hsh with h1 h2;subst h1;subst h2
    cases has
    obtain⟨ob,m,hm,rfl,rfl⟩:=KC hr
    simp only[execOp,ho]
    exact Cp.new (VP h hf hm)
  case box e x =>
    injection hsh with hsh;injection hsh with h1 h2;subst h1;subst h2
    obtain⟨a,rfl,ha⟩:=AX.one has
    obtain⟨ob,m,hm,rfl,rfl⟩:=KC hr
    simp only[execOp,ho]
    exact Cp.new (c6 h hf hm ha)
  case buildSlice t len ps =>
    injection hsh with hsh;injection hsh with h1 h2;subst h1;subst h2
    obtain⟨ob,m,hm,rfl,rfl⟩:=KC hr
    simp only[qh]at hm
    obtain⟨r,hr1,hm⟩:=hm
    injection hm with hm;injection hm with h1 h2;subst h1;subst h2
    obtain⟨z1,z2⟩:=Ny has
    simp only[execOp,ho]
    exact Cp.new (PC h hf hr1 z1 z2)
  case makeMap t r =>
    cases r with
    | some _=>simp[Bi]at hsh
    | none =>
      injection hsh with hsh;injection hsh with h1 h2;subst h1;subst h2
      cases has
      obtain⟨ob,m,hm,rfl,rfl⟩:=KC hr
      injection hm with hm;injection hm with h1 h2;subst h1;subst h2
      simp only[execOp,ho]
      exact Cp.new (Tm h hf t)
  case makeSlice t l c =>
    injection hsh with hsh;injection hsh with h1 h2;subst h1;subst h2
    obtain⟨a,b,rfl,ha,hb⟩:=AX.two has
    obtain⟨ob,m,hm,rfl,rfl⟩:=KC hr
    simp only[execOp,ho]
    exact Cp.new (M6 h hf hm ha hb)
  case store t a x =>
    injection hsh with hsh;injection hsh with h1 h2;subst h1;subst h2
    obtain⟨a,b,rfl,ha,hb⟩:=AX.two has
    obtain⟨hv,rfl⟩:=Gb (cG hr)
    simp only[execOp,ho]
    exact Cp.unit (Wk h hv ha hb)
  case mapUpdate t m k x =>
    injection hsh with hsh;injection hsh with h1 h2;subst h1;subst h2
    obtain⟨a,b,c,rfl,ha,hb,hc⟩:=AX.three has
    obtain⟨hv,rfl⟩:=Gb (cG hr)
    simp only[execOp,ho]
    exact Cp.unit (Mr h hv ha hb hc)
  case insert t m k x =>
    injection hsh with hsh;injection hsh with h1 h2;subst h1;subst h2
    obtain⟨a,b,c,rfl,ha,hb,hc⟩:=AX.three has
    obtain⟨hv,rfl⟩:=Gb (cG hr)
    simp only[execOp,ho]
    exact Cp.unit (Mr h hv ha hb hc)
  case call c =>
    obtain⟨callee,args,argTypes⟩:=c
    have hx:∀b,callee=.builtin b→execOp ev o=builtin b argTypes o.type (args.map fun | .const _=>true | _=>false) (args.map ev):=by
      intro b hb
      subst hb
      simp only[execOp,ho,resolve]
      rfl
    simp only[Bi]at hsh
    split at hsh
    · injection hsh with hsh;injection hsh with h1 h2;subst h1;subst h2;cases hr
    · injection hsh with hsh;injection hsh with h1 h2;subst h1;subst h2;cases hr
    · cases hsh
    · rename_i b
      rw[hx b rfl]
      have hargs:∀l:List Value,args.toList.map ev=l→args.map ev=l.toArray:=by
        intro l hl
        rw[← hl,← Array.toList_map]
      split at hsh<;>first | (cases hsh;done) | skip
      · split at hsh<;>first | (cases hsh;done) | skip
        rename_i t ht
        injection hsh with hsh;injection hsh with h1 h2;subst h1;subst h2
        obtain⟨hv,rfl⟩:=RF hr
        split at hv<;>first | (cases hv;done) | skip
        generalize hl:args.toList.map ev=l at has
        cases has with
        | cons hx1 hn =>
          cases hn
          rw[hargs _ hl]
          exact Cp.pure h (eR h ht hv hx1)
      · split at hsh<;>first | (cases hsh;done) | skip
        rename_i t ht
        injection hsh with hsh;injection hsh with h1 h2;subst h1;subst h2
        obtain⟨hv,rfl⟩:=RF hr
        split at hv<;>first | (cases hv;done) | skip
        generalize hl:args.toList.map ev=l at has
        cases has with
        | cons hx1 hn =>
          cases hn
          rw[hargs _ hl]
          exact Cp.pure h (dg h ht hv hx1)
      · injection hsh with hsh;injection hsh with h1 h2;subst h1;subst h2
        obtain⟨hv,rfl⟩:=Nq hr
        split at hv<;>first | (cases hv;done) | skip
        generalize hl:args.toList.map ev=l at has
        cases has with
        | cons hx1 hn =>
          rw[hargs _ hl]
          refine Cp.pure h ?_
          obtain⟨r',e1,e2⟩:=Hk (P:=P) (w:=w) hv hx1 hn
          exact⟨r',by simpa[Builtin.min_]using e1,e2⟩
      · injection hsh with hsh;injection hsh with h1 h2;subst h1;subst h2
        obtain⟨hv,rfl⟩:=Nq hr
        split at hv<;>first | (cases hv;done) | skip
        generalize hl:args.toList.map ev=l at has
        cases has with
        | cons hx1 hn =>
          rw[hargs _ hl]
          refine Cp.pure h ?_
          obtain⟨r',e1,e2⟩:=Hk (P:=P) (w:=w) hv hx1 hn
          exact⟨r',by simpa[Builtin.max_]using e1,e2⟩
      · injection hsh with hsh;injection hsh with h1 h2;subst h1;subst h2
        have hr:AY P s argTypes.toList aS=some (v,s1):=hr
        have hr0:=hr
        unfold AY at hr0
        split at hr0<;>first | (cases hr0;done) | skip
        rename_i st xt a len cap x hty _
        clear hr0
        generalize hl:args.toList.map ev=l at has
        obtain⟨a',x',rfl,hx1,hx2⟩:∃a' x',l=[a',x']∧Ad ρ _ a'∧Ad ρ _ x':=by
          cases has with
          | cons h1 h2=>cases h2 with | cons h2 h3=>cases h3;exact⟨_,_,rfl,h1,h2⟩
        rw[hargs _ hl,show argTypes=#[st,xt]from Array.ext' hty]
        rw[hty]at hr
        exact Cp.eff (R5 h hf hr hx1 hx2)
      · injection hsh with hsh;injection hsh with h1 h2;subst h1;subst h2
        rw[hargs _ rfl]
        exact Cp.eff (aV h hr (by simpa using has))
      · injection hsh with hsh;injection hsh with h1 h2;subst h1;subst h2
        rw[hargs _ rfl]
        exact Cp.eff (VU h hr (by simpa using has))
      · split at hsh<;>first | (cases hsh;done) | skip
        rename_i t ht
        injection hsh with hsh;injection hsh with h1 h2;subst h1;subst h2
        have hr:BW (fun m k=>AS (Ku P s t m k)) aS=some (v,s1):=hr
        unfold BW at hr
        split at hr<;>first | (cases hr;done) | skip
        obtain⟨hv,rfl⟩:=Gb hr
        generalize hl:args.toList.map ev=l at has
        obtain⟨a',x',rfl,hx1,hx2⟩:∃a' x',l=[a',x']∧Ad ρ _ a'∧Ad ρ _ x':=by
          cases has with
          | cons h1 h2=>cases h2 with | cons h2 h3=>cases h3;exact⟨_,_,rfl,h1,h2⟩
        rw[hargs _ hl]
        obtain⟨w1,e1,e2,e3⟩:=TO (ty:=o.type) h ht hv hx1 hx2
        exact Cp.eff ⟨undef,w1,ρ,e1,Du ρ,e2,e3⟩
end
def AE.sub(s s':AE):Prop:=∀i o,s.heap.get i=some o→s'.heap.get i=some o
section
variable{P:Program}{ρ ρ1 ρ2:Bq}{s s1 s2:AE}{w w1 w2:World}
theorem AE.sub_new(h:s.heap.get s.next=none)(o:C8):s.sub (newObj s o):=fun i ob e=>by
 rw[Cb,if_neg]
 ·exact e
 ·intro q;subst q;rw[h]at e;cases e
theorem GV(h:s.sub s2){i:Nat}{r:EX}(hr:rowAt s i=some r):rowAt s2 i=some r:=by
 have:=h i _ (C0 hr)
 simp[rowAt,this]
theorem MK(h:s.sub s2){i o n:Nat}{l:List AV}(hr:loadN s i o n=some l):loadN s2 i o n=some l:=by
 unfold loadN at hr ⊢
 simp only[qh]at hr
 obtain⟨r,h1,h2⟩:=hr
 rw[GV h h1]
 exact h2
theorem Tf(h:s.sub s2){i o:Nat}{l:AV}(hr:load1 s i o=some l):load1 s2 i o=some l:=by
 unfold load1 at hr ⊢
 simp only[qh]at hr
 obtain⟨r,h1,h2⟩:=hr
 rw[GV h h1]
 exact h2
theorem Tg(h:s.sub s2){t:TypeId}{a v:AV}(hr:AC P s t a=some v):AC P s2 t a=some v:=by
 unfold AC at hr ⊢
 split at hr<;>first | (cases hr;done) | skip
 simp only[qh]at hr ⊢
 obtain⟨g,h1,h2⟩:=hr
 refine⟨g,h1,?_⟩
 cases g with
 | true =>
  simp only[qh]at h2 ⊢
  obtain⟨n,h3,l,h4,h5⟩:=h2
  exact⟨n,h3,l,MK h h4,h5⟩
 | false=>exact Tf h h2
theorem Oq(h:s.sub s2){t:TypeId}{m k v:AV}{ok:Bool}(hr:DK P s t m k ok=some v):DK P s2 t m k ok=some v:=by
  unfold DK at hr ⊢
  split at hr<;>first | (cases hr;done) | skip
  obtain⟨hk,hg⟩:=AI hr
  clear hr
  rw[hk]
  simp only[AG,cond_true]
  simp only[qh]at hg ⊢
  obtain⟨es,h1,rest⟩:=hg
  refine⟨es,?_,rest⟩
  cases m with
  | map r =>
    cases r with
    | none=>exact h1
    | some i =>
      simp only at h1 ⊢
      split at h1<;>first | (cases h1;done) | skip
      rename_i hget
      rw[h i _ hget]
      exact h1
  | _=>cases h1
theorem TN(h:s.sub s2){src dst:TypeId}{x v:AV}(hr:C5 P s src dst x=some v):C5 P s2 src dst x=some v:=by
  unfold C5 at hr ⊢
  split at hr<;>first | (cases hr;done) | skip
  · exact hr
  · exact hr
  · split at hr <;> first | (cases hr; done) | skip
    split at hr
    · exact hr
    · simp only[qh]at hr ⊢
      obtain⟨l,h1,rest⟩:=hr
      exact⟨l,MK h h1,rest⟩
theorem RH          (h : s.sub s2) {t : TypeId} {x v : AV} {lo hi mx : Option AV} (hr : An     P s t x lo hi mx = some v) : An     P s2 t x lo hi mx = some v := by
  unfold An at hr ⊢
  split at hr<;>first | (cases hr;done) | skip
  · exact hr
  · rename_i a len cap
    split at hr<;>first | (cases hr;done) | skip
    simp only[qh]at hr ⊢
    obtain⟨n,h1,far,h2,rest⟩:=hr
    refine⟨n,h1,far,?_,rest⟩
    cases cap with
    | some c=>exact h2
    | none =>
      cases a with
      | none=>exact h2
      | some io =>
        obtain⟨i,o⟩:=io
        simp only[qh]at h2 ⊢
        obtain⟨r,h3,h4⟩:=h2
        exact⟨r,GV h h3,h4⟩
  · exact hr
theorem Km(h:s.sub s2){t:TypeId}{lo hi mx:Bool}{aS:List AV}{v:AV}(hr:AU P t lo hi mx s aS=some v):AU P t lo hi mx s2 aS=some v:=by
 unfold AU at hr ⊢
 split at hr<;>first | (cases hr;done) | skip
 all_goals
  split at hr<;>first | (cases hr;done) | exact RH h hr
theorem Vu(h:s.sub s2){t:TypeId}{x v:AV}(hr:As P s t x=some v):As P s2 t x=some v:=by
  unfold As at hr ⊢
  split at hr<;>first | (cases hr;done) | skip
  · exact hr
  · exact hr
  · exact hr
  · split at hr <;> first | (cases hr; done) | skip
    split at hr<;>first | (cases hr;done) | skip
    rename_i hget
    rw[h _ _ hget]
    exact hr
theorem VT(h:s.sub s2){t:TypeId}{x v:AV}(hr:Mz P s t x=some v):Mz P s2 t x=some v:=by
  unfold Mz at hr ⊢
  split at hr<;>first | (cases hr;done) | skip
  split at hr<;>first | (cases hr;done) | skip
  split at hr
  · exact hr
  · split at hr <;> first | (cases hr; done) | skip
    simp only[qh]at hr ⊢
    obtain⟨n,h1,r,h2,h3⟩:=hr
    exact⟨n,h1,r,GV h h2,h3⟩
theorem QX{α:Type}{f g:AV→Option α}(hm:∀a v,f a=some v→g a=some v){aS:List AV}{v:α}(h:one f aS=some v):one g aS=some v:=by
 unfold one at h ⊢
 split at h<;>first | (cases h;done) | exact hm _ _ h
theorem bX{α:Type}{f g:AV→AV→Option α}(hm:∀a b v,f a b=some v→g a b=some v){aS:List AV}{v:α}(h:BW f aS=some v):BW g aS=some v:=by
 unfold BW at h ⊢
 split at h<;>first | (cases h;done) | exact hm _ _ _ h
theorem WX(h:s.sub s2){o:Op}{sh:Sh}{xs:List Operand}{aS:List AV}{v:AV}(hsh:Bi P o=some (sh,xs))(hr:Eu sh aS s=some v):Eu sh aS s2=some v:=by
 cases o<;>first | (simp[Bi]at hsh;done) | skip
 case load t a=>injection hsh with hsh;injection hsh with h1 h2;subst h1;exact QX (fun _ _=>Tg h) hr
 case lookup t m k ok=>injection hsh with hsh;injection hsh with h1 h2;subst h1;exact bX (fun _ _ _=>Oq h) hr
 case convert src dst x=>injection hsh with hsh;injection hsh with h1 h2;subst h1;exact QX (fun _ _=>TN h) hr
 case slice t x lo hi mx=>injection hsh with hsh;injection hsh with h1 h2;subst h1;exact Km h hr
 case call c =>
  obtain⟨callee,args,argTypes⟩:=c
  simp only[Bi]at hsh
  split at hsh<;>first | (cases hsh;done) | (injection hsh with hsh;injection hsh with h1 h2;subst h1;cases hr;done) | skip
  split at hsh<;>first | (cases hsh;done) | (injection hsh with hsh;injection hsh with h1 h2;subst h1;cases hr;done) | skip
  ·split at hsh<;>first | (cases hsh;done) | skip
   injection hsh with hsh;injection hsh with h1 h2;subst h1
   simp only[Eu]at hr ⊢
   split at hr<;>first | (cases hr;done) | exact Vu h hr
  ·split at hsh<;>first | (cases hsh;done) | skip
   injection hsh with hsh;injection hsh with h1 h2;subst h1
   simp only[Eu]at hr ⊢
   split at hr<;>first | (cases hr;done) | exact VT h hr
  ·split at hsh<;>first | (cases hsh;done) | skip
   injection hsh with hsh;injection hsh with h1 h2;subst h1;cases hr
 case makeMap t r =>
  cases r with
  | some _=>cases hsh
  | none=>injection hsh with hsh;injection hsh with h1 h2;subst h1;cases hr
 case makeFunc fn first captured =>
  cases fn with
  | func f=>injection hsh with hsh;injection hsh with h1 h2;subst h1;cases hr
  | _=>cases hsh
 all_goals (injection hsh with hsh;injection hsh with h1 h2;subst h1;cases hr)
end
theorem Ox(l:List AV)(i:Nat):U7 l i=l.getD i Ar:=by
  induction l generalizing i with
  | nil=>rfl
  | cons a l ih =>
    cases i with
    | zero=>rfl
    | succ i=>exact ih i
theorem Oy{l:List AV}{i:Nat}{v:AV}(h:l[i]? = some v):U7 l i=v:=by rw[Ox];simp[h]
theorem KK(v:AV)(l:List AV)(i:Nat):Mq v l i=l.set i v:=by
  induction l generalizing i with
  | nil=>rfl
  | cons a l ih =>
    cases i with
    | zero=>rfl
    | succ i=>exact congrArg (a::·) (ih i)
theorem Oz{v:AV}{l:List AV}{i:Nat}(h:i<l.length):U7 (Mq v l i) i=v:=by
 rw[Ox,KK];simp[h]
theorem IB{v:AV}{l:List AV}{i j:Nat}(h:i≠j):U7 (Mq v l j) i=U7 l i:=by
 rw[Ox,Ox,KK];simp[List.getElem?_set_ne (Ne.symm h)]
theorem Fo{vars:List Tmp}{t:Tmp}:∀ {j:Nat},CA vars t=some j→vars[j]? = some t:=by
 induction vars with
 | nil=>intro j h;cases h
 | cons a l ih =>
  intro j h
  unfold CA at h
  cases hb:Nat.beq a t with
  | true =>
   rw[hb]at h
   simp only[cond_true,Option.some.injEq]at h
   subst h
   rw[BB hb]
   rfl
  | false =>
   rw[hb]at h
   simp only[cond_false,qh]at h
   obtain⟨i,h1,h2⟩:=h
   injection h2 with h2
   subst h2
   exact ih h1
theorem FZ{vars:List Tmp}{t:Tmp}{j:Nat}(h:CA vars t=some j):j<vars.length:=by
 have:=Fo h
 rcases qk j vars.length with h' | h'
 ·exact h'
 ·rw[rA h']at this;cases this
theorem KW{vars:List Tmp}{t u:Tmp}{j:Nat}(h:CA vars t=some j)(k:CA vars u=some j):t=u:=by
 have h1:=Fo h
 have h2:=Fo k
 rw[h1]at h2
 injection h2
mutual
theorem aZ     : ∀ {a b : AV}, E8  a b = true → a = b := by
  intro a b h
  unfold E8 at h
  split at h
  · simp at h;rw[h]
  · simp only[Bool.and_eq_true]at h;have:=Fq h.1;subst this;have h2:=h.2;rw[GQ]at h2;simp at h2;rw[h2]
  · rename_i x y
    have:∀x y:List Nat,Gh x y=true→x=y:=by
      intro x
      induction x with
      | nil=>intro y h;cases y with | nil=>rfl | cons=>cases h
      | cons a x ih =>
        intro y h
        cases y with
        | nil=>cases h
        | cons b y =>
          unfold Gh at h
          cases hb:Nat.beq a b with
          | true=>rw[hb]at h;rw[BB hb,ih y h]
          | false=>rw[hb]at h;cases h
    rw[this _ _ h]
  · rfl
  · simp only[Bool.and_eq_true]at h;rw[BB h.1,BB h.2]
  · simp only[Bool.and_eq_true]at h;rw[BB h.1,BB h.2]
  · rw[BB h]
  · simp only[Bool.and_eq_true]at h;rw[BB h.1.1,BB h.1.2,BB h.2]
  · simp only[Bool.and_eq_true]at h;rw[BB h.1.1.1,BB h.1.1.2,BB h.1.2,BB h.2]
  · rfl
  · rw[BB h]
  · simp only[Bool.and_eq_true]at h;rw[BB h.1.1,Iz h.1.2,Iz h.2]
  · rfl
  · rfl
  · rw[BB h]
  · rw[Iz h]
  · rw[Iz h]
  · cases h
theorem Iz:∀ {a b:List AV},E8.eqAs a b=true→a=b:=by
 intro a b h
 unfold E8.eqAs at h
 split at h
 ·rfl
 ·simp only[Bool.and_eq_true]at h;rw[aZ h.1,Iz h.2]
 ·cases h
end
abbrev CP:=Tmp→Option AV
def CP.put(R:CP)(d:Option Tmp)(v:AV):CP:=match d with
 | none=>R
 | some d=>fun t=>if t=d then some v else R t
def Q5(R:CP):Operand→Option AV
 | .tmp t=>R t
 | .const v=>ofValue v
 | .global _=>none
 | .func f=>some (.func f [] [])
def EQ(R:CP):List Operand→Option (List AV)
 | []=>some []
 | x::l=>(Q5 R x).bind fun a=>(EQ R l).bind fun r=>some (a::r)
def JY(ops:Array Oper)(R:CP)(o:Oper):Option Bool:=match o.guard with
 | none=>some true
 | some (j,want)=>(ops[j]?).bind fun p=>p.dst.bind fun d=>(R d).bind fun x=>some (mr want x)
def cX(F:EH)(sh:Sh)(aS:List AV)(s:AE):Option (AV×AE):=
 match sh with
 | .call f=>F.call f aS s
 | .callv=>(match aS with | a::l=>G0 F a l s | []=>none)
 | _=>KB sh aS s
structure R0 where
 idx:Nat
 sh:Sh
 aS:List AV
 v:AV
 want:Bool
structure LD(P:Program)(F:EH)(ops:Array Oper)(nt:Nat)(R:CP)(s:AE)(o:Oper)(sh:Sh)(want:Bool)(aS:List AV)(v:AV)(R1:CP)(s1:AE):Prop where
 shape:∃xs,Bi P o.op=some (sh,xs)∧EQ R xs=some aS
 wants:JY ops R o=some want
 put:R1=R.put o.dst v
 lt:∀d,o.dst=some d→d<nt
 yes:want=true→cX F sh aS s=some (v,s1)
 no:want=false→v=Ar∧s1=s
inductive Trace (P:Program) (F:EH) (ops:Array Oper) (nt:Nat) (b:Array Nat) (draw:Bool):List Nat→List R0→CP→AE→CP→AE→Prop
 | nil {rs:List R0} {R:CP} {s:AE}:Trace P F ops nt b draw [] rs R s R s
 | cons {i:Nat} {l:List Nat} {rs:List R0} {R R1 R2:CP} {s s1 s2:AE} {o:Oper} {sh:Sh} {want:Bool} {aS:List AV} {v:AV}
   (ho:ops[i]? = some o) (hs:LD P F ops nt R s o sh want aS v R1 s1)
   (ag:draw=true→sh.isEff=true→want=true→∀r∈rs,(b.getD i 0).testBit r.idx=false→r.want=true→Eu r.sh r.aS s1=some r.v)
   (hl:Trace P F ops nt b draw l (bif draw && sh.isRead then ⟨i,sh,aS,v,want⟩::rs else rs) R1 s1 R2 s2):Trace P F ops nt b draw (i::l) rs R s R2 s2
structure Ef(vars:List Tmp)(c:cY)(loc var:List AV)(R:CP):Prop where
 vlen:var.length=vars.length
 bnd:∀t p,Es c.map t=some (.loc p)→p<c.cnt
 keys:∀t x,Es c.map t=some x→CA vars t=none
 val:∀t x,Ev vars c t=some x→R t=some (Dw loc var (Cm c.cnt x))
theorem Vy:∀ {m:List (Tmp×CX)}{t:Tmp}{x:CX},Es m t=some x→(t,x)∈m:=by
 intro m
 induction m with
 | nil=>intro t x h;cases h
 | cons p m ih =>
  obtain⟨a,y⟩:=p
  intro t x h
  unfold Es at h
  cases hb:Nat.beq a t with
  | true =>
   rw[hb]at h
   simp only[cond_true,Option.some.injEq]at h
   rw[BB hb,h]
   exact ql
  | false =>
   rw[hb]at h
   exact qo _ (ih h)
theorem QV:∀ {m:List (Tmp×CX)}{j:Nat},JK j m=true→∀t,(t,CX.var j) ∉ m:=by
 intro m
 induction m with
 | nil=>intro j h t hm;cases hm
 | cons p m ih =>
  obtain⟨a,y⟩:=p
  intro j h t hm
  simp only[JK,Bool.and_eq_true,Bool.not_eq_true']at h
  cases hm with
  | head=>simp[isVar]at h
  | tail _ hm=>exact ih h.2 t hm
theorem EM(m:List (Tmp×CX))(d t:Tmp)(x:CX):Es ((d,x)::m) t=if t=d then some x else Es m t:=by
 simp only[Es]
 by_cases e:t=d
 ·subst e;simp
 ·have:Nat.beq d t=false:=by
   cases hb:Nat.beq d t with
   | true=>exact absurd (BB hb).symm e
   | false=>rfl
  rw[this,if_neg e,cond_false]
theorem FH{loc var:List AV}{v:AV}{cnt:Nat}{x:CX}(h:∀p,x=.loc p→p<cnt):Dw (v::loc) var (Cm (cnt+1) x)=Dw loc var (Cm cnt x):=by
 cases x with
 | loc p =>
  have:=h p rfl
  simp only[Cm,Dw]
  rw[show cnt+1 - 1 - p=(cnt - 1 - p)+1 from by omega]
  rfl
 | var j=>rfl
 | const v=>rfl
variable{vars:List Tmp}{c:cY}{loc var:List AV}{R:CP}
theorem Ef.push(h:Ef vars c loc var R){d:Tmp}(v:AV)(hd:CA vars d=none):Ef vars { map:=(d,.loc c.cnt)::c.map,cnt:=c.cnt+1 } (v::loc) var (R.put (some d) v):=by
  refine⟨h.vlen,?_,?_,?_⟩
  · intro t p hp
    rw[EM]at hp
    split at hp
    · injection hp with hp;injection hp with hp;subst hp;exact rP _
    · exact sK (h.bnd t p hp)
  · intro t x hx
    rw[EM]at hx
    split at hx
    · rename_i e;subst e;exact hd
    · exact h.keys t x hx
  · intro t x hx
    unfold Ev at hx
    simp only[EM]at hx
    by_cases e:t=d
    · subst e
      simp only[if_true,Option.some.injEq]at hx
      subst hx
      simp only[CP.put,if_true,Cm,Dw]
      rw[show c.cnt+1 - 1 - c.cnt=0 from by omega]
      rfl
    · simp only [if_neg e] at hx
      simp only[CP.put,if_neg e]
      have hx':Ev vars c t=some x:=by unfold Ev;exact hx
      rw[h.val t x hx',FH]
      intro p hp
      subst hp
      cases hl:Es c.map t with
      | some y=>rw[hl]at hx;injection hx with hx;subst hx;exact h.bnd t p hl
      | none=>rw[hl]at hx;simp only[qh]at hx;obtain⟨j,_,hx⟩:=hx;cases hx
theorem Mc(h:Ef vars c loc var R){t:Tmp}{x:CX}(hx:Ev vars c t=some x):∀p,x=.loc p→p<c.cnt:=by
 intro p hp
 subst hp
 unfold Ev at hx
 cases hl:Es c.map t with
 | some y=>rw[hl]at hx;injection hx with hx;subst hx;exact h.bnd t p hl
 | none=>rw[hl]at hx;simp only[qh]at hx;obtain⟨j,_,hx⟩:=hx;cases hx
theorem MQ(h:Ef vars c loc var R){o:Operand}{x:CX}(hx:Fn vars c o=some x):∀p,x=.loc p→p<c.cnt:=by
 cases o with
 | tmp t=>exact Mc h hx
 | const v =>
  intro p hp
  subst hp
  simp only[Fn,qh]at hx
  obtain⟨a,_,hx⟩:=hx
  cases hx
 | global g=>cases hx
 | func f=>intro p hp;subst hp;simp[Fn]at hx
theorem Ef.pushNone(h:Ef vars c loc var R)(v:AV):Ef vars { c with cnt:=c.cnt+1 } (v::loc) var R:=by
 refine⟨h.vlen,fun t p hp=>sK (h.bnd t p hp),h.keys,?_⟩
 intro t x hx
 have hx':Ev vars c t=some x:=hx
 rw[h.val t x hx',FH (Mc h hx')]
theorem Ef.set   (h : Ef   vars c loc var R) {d : Tmp} {j : Nat} (v : AV) (hd : CA      vars d = some j) (hn : JK      j c.map = true) : Ef   vars c loc (Mq  v var j) (R.put (some d) v) := by
  refine⟨by rw[KK,qr];exact h.vlen,h.bnd,h.keys,?_⟩
  intro t x hx
  have hj:j<var.length:=by rw[h.vlen];exact FZ hd
  by_cases e:t=d
  · subst e
    unfold Ev at hx
    cases hl:Es c.map t with
    | some y=>have:=h.keys t y hl;rw[hd]at this;cases this
    | none =>
      rw[hl,hd]at hx
      injection hx with hx
      subst hx
      simp only[CP.put,if_true,Cm,Dw]
      rw[Oz hj]
  · simp only[CP.put,if_neg e]
    rw[h.val t x hx]
    congr 1
    cases x with
    | loc p=>rfl
    | const v=>rfl
    | var i =>
      simp only[Cm,Dw]
      rw[IB]
      intro q
      subst q
      unfold Ev at hx
      cases hl:Es c.map t with
      | some y=>rw[hl]at hx;injection hx with hx;subst hx;exact QV hn t (Vy hl)
      | none =>
        rw[hl]at hx
        simp only[qh]at hx
        obtain⟨k,hk,hx⟩:=hx
        injection hx with hx
        injection hx with hx
        subst hx
        exact e (KW hk hd)
theorem Ef.alias(h:Ef vars c loc var R){d:Tmp}{o:Operand}{x:CX}(hx:Fn vars c o=some x)(hd:CA vars d=none):
    Ef vars { c with map:=(d,x)::c.map } loc var (R.put (some d) (Dw loc var (Cm c.cnt x))):=by
  refine⟨h.vlen,?_,?_,?_⟩
  · intro t p hp
    rw[EM]at hp
    split at hp
    · injection hp with hp;subst hp;exact MQ h hx p rfl
    · exact h.bnd t p hp
  · intro t y hy
    rw[EM]at hy
    split at hy
    · rename_i e;subst e;exact hd
    · exact h.keys t y hy
  · intro t y hy
    unfold Ev at hy
    simp only[EM]at hy
    by_cases e:t=d
    · subst e
      simp only[if_true,Option.some.injEq]at hy
      subst hy
      simp only[CP.put,if_true]
    · simp only [if_neg e] at hy
      simp only[CP.put,if_neg e]
      exact h.val t y hy
theorem MR(h:Ef vars c loc var R){o:Operand}{x:CX}(hx:Fn vars c o=some x):Q5 R o=some (Dw loc var (Cm c.cnt x)):=by
 cases o with
 | tmp t=>exact h.val t x hx
 | const v =>
  simp only[Fn,qh]at hx
  obtain⟨a,h1,h2⟩:=hx
  injection h2 with h2
  subst h2
  exact h1
 | global g=>cases hx
 | func f=>injection hx with hx;subst hx;rfl
theorem Nh(h:Ef vars c loc var R):∀ {l:List Operand}{xs:List CX},Ia vars c l=some xs→EQ R l=some (EK loc var (xs.map (Cm c.cnt)))
 | [],xs,hx=>by injection hx with hx;subst hx;rfl
 | o::l,xs,hx=>by
  simp only[Ia,qh]at hx
  obtain⟨a,h1,r,h2,h3⟩:=hx
  injection h3 with h3
  subst h3
  simp only[EQ,MR h h1,Nh h h2,Option.bind_some,rm]
  rfl
theorem fD{F:EH}{sh:Sh}{xs:List CX}{loc var:List AV}{s:AE}{p:AV×AE}(h:md F sh xs loc var s=some p):cX F sh (EK loc var xs) s=some p:=by
 cases sh with
 | p1 f=>cases xs with
  | nil=>cases h
  | cons x l=>exact h
 | p2 f=>cases xs with
  | nil=>cases h
  | cons x l=>cases l with
   | nil=>cases h
   | cons y l=>exact h
 | p f=>exact h
 | r1 f=>cases xs with
  | nil=>cases h
  | cons x l=>exact h
 | r f=>exact h
 | mk f=>exact h
 | e f=>exact h
 | call f=>exact h
 | callv=>cases xs with
  | nil=>cases h
  | cons x l=>exact h
def OF(cnt:Nat)(x:CX):Prop:=∀p,x=.loc p→p<cnt
structure Im(loc var:List AV)(cnt:Nat)(r:Nat×Gl)(q:R0):Prop where
 idx:r.1=q.idx
 sh:r.2.sh=q.sh
 aS:EK loc var (r.2.xs.map (Cm cnt))=q.aS
 v:Dw loc var (Cm cnt r.2.ans)=q.v
 want:Bj loc var (Hs cnt r.2.guard)=q.want
 bx:∀x∈r.2.xs,OF cnt x
 ba:∃p,r.2.ans=.loc p∧p<cnt
 bg:∀x b,r.2.guard=some (x,b)→OF cnt x
inductive F6 (loc var:List AV) (cnt:Nat):List (Nat×Gl)→List R0→Prop
 | nil:F6 loc var cnt [] []
 | cons {r:Nat×Gl} {q:R0} {l:List (Nat×Gl)} {m:List R0} (h:Im loc var cnt r q) (hl:F6 loc var cnt l m):F6 loc var cnt (r::l) (q::m)
theorem Jt{loc var:List AV}{v:AV}{cnt:Nat}:∀ {xs:List CX},(∀x∈xs,OF cnt x)→EK (v::loc) var (xs.map (Cm (cnt+1)))=EK loc var (xs.map (Cm cnt))
 | [],_=>rfl
 | x::l,h=>by
  show Dw (v::loc) var (Cm (cnt+1) x)::EK (v::loc) var (l.map (Cm (cnt+1)))=Dw loc var (Cm cnt x)::EK loc var (l.map (Cm cnt))
  rw[FH (h x ql),Jt fun y hy=>h y (qo _ hy)]
theorem OF.succ{cnt:Nat}{x:CX}(h:OF cnt x):OF (cnt+1) x:=fun p hp=>sK (h p hp)
theorem Im.push{loc var:List AV}{cnt:Nat}{r:Nat×Gl}{q:R0}(h:Im loc var cnt r q)(v:AV):Im (v::loc) var (cnt+1) r q:=by
  obtain⟨p,hp,hlt⟩:=h.ba
  refine⟨h.idx,h.sh,(Jt h.bx).trans h.aS,?_,?_,fun x hx=>(h.bx x hx).succ,⟨p,hp,sK hlt⟩,fun x b e=>(h.bg x b e).succ⟩
  · rw [FH]
    · exact h.v
    · intro p' e;rw[hp]at e;injection e with e;subst e;exact hlt
  · rw[← h.want]
    cases hg:r.2.guard with
    | none=>rfl
    | some g =>
      obtain⟨x,b⟩:=g
      simp only[Hs,Bj]
      rw[FH (h.bg x b hg)]
theorem F6.push{loc var:List AV}{cnt:Nat}{rs:List (Nat×Gl)}{m:List R0}(h:F6 loc var cnt rs m)(v:AV):F6 (v::loc) var (cnt+1) rs m:=by
 induction h with
 | nil=>exact .nil
 | cons h _ ih=>exact .cons (h.push v) ih
theorem Uo{loc var:List AV}{v:AV}{j:Nat}{x:CX}(h:isVar j x=false):Dw loc (Mq v var j) x=Dw loc var x:=by
 cases x with
 | loc p=>rfl
 | const c=>rfl
 | var i =>
  simp only[Dw]
  rw[IB]
  intro e
  subst e
  simp[isVar]at h
theorem Nb{cnt j:Nat}{x:CX}:isVar j (Cm cnt x)=isVar j x:=by cases x<;>rfl
theorem Ps{loc var:List AV}{v:AV}{j cnt:Nat}:∀ {xs:List CX},(xs.all fun x=>!isVar j x)=true→EK loc (Mq v var j) (xs.map (Cm cnt))=EK loc var (xs.map (Cm cnt))
 | [],_=>rfl
 | x::l,h=>by
  simp only[List.all_cons,Bool.and_eq_true,Bool.not_eq_true']at h
  show Dw loc (Mq v var j) (Cm cnt x)::EK loc (Mq v var j) (l.map (Cm cnt))=Dw loc var (Cm cnt x)::EK loc var (l.map (Cm cnt))
  rw[Uo (by rw[Nb];exact h.1),Ps h.2]
theorem Im.set{loc var:List AV}{cnt j:Nat}{r:Nat×Gl}{q:R0}(h:Im loc var cnt r q)(v:AV)(hf:O4 j r.2=true):Im loc (Mq v var j) cnt r q:=by
 obtain⟨p,hp,hlt⟩:=h.ba
 simp only[O4,Bool.and_eq_true]at hf
 refine⟨h.idx,h.sh,(Ps hf.2).trans h.aS,?_,?_,h.bx,h.ba,h.bg⟩
 ·rw[← h.v,hp];rfl
 ·rw[← h.want]
  cases hg:r.2.guard with
  | none=>rfl
  | some g =>
   obtain⟨x,b⟩:=g
   have:=hf.1
   rw[hg]at this
   simp only[Bool.not_eq_true']at this
   simp only[Hs,Bj]
   rw[Uo (by rw[Nb];exact this)]
theorem F6.set{loc var:List AV}{cnt j:Nat}{rs:List (Nat×Gl)}{m:List R0}(h:F6 loc var cnt rs m)(v:AV)(hf:(rs.all fun r=>O4 j r.2)=true):F6 loc (Mq v var j) cnt rs m:=by
 induction h with
 | nil=>exact .nil
 | cons h _ ih =>
  simp only[List.all_cons,Bool.and_eq_true]at hf
  exact .cons (h.set v hf.1) (ih hf.2)
theorem Wz       {s : AE}  {loc var : List AV} {cnt : Nat} {f : Nat × Gl  → Bool} : ∀ {rs : List (Nat × Gl)}  {m : List R0},  F6    loc var cnt rs m → Eg     s loc var ((rs.filter f).map fun r => JQ    cnt r.2) = true →
    ∀q∈m,(∀r:Nat×Gl,r.1=q.idx→f r=true)→q.want=true→Eu q.sh q.aS s=some q.v:=by
  intro rs m h
  induction h with
  | nil=>intro _ q hq;cases hq
  | cons h hl ih =>
    rename_i r q l m
    intro hag q' hq' hf hw
    simp only[List.filter_cons]at hag
    cases hq' with
    | head =>
      rw[if_pos (hf r h.idx)]at hag
      have hag:(GL s loc var (JQ cnt r.2) && Eg s loc var ((l.filter f).map fun r=>JQ cnt r.2))=true:=hag
      simp only[Bool.and_eq_true]at hag
      have h1:=hag.1
      simp only[GL,JQ,h.want,hw,Bool.not_true,Bool.false_or,h.aS,h.v,h.sh]at h1
      cases hr:Eu q.sh q.aS s with
      | none=>rw[hr]at h1;cases h1
      | some u =>
        rw[hr]at h1
        have:=aZ (show E8 u q.v=true from h1)
        rw[this]
    | tail _ hq' =>
      refine ih ?_ q' hq' hf hw
      by_cases hfr:f r=true
      · rw[if_pos hfr]at hag
        have hag:(GL s loc var (JQ cnt r.2) && Eg s loc var ((l.filter f).map fun r=>JQ cnt r.2))=true:=hag
        simp only[Bool.and_eq_true]at hag
        exact hag.2
      · rw[if_neg hfr]at hag
        exact hag
theorem ap       {P : Program} {vars : List Tmp} {c : cY}  {loc var : List AV} {R : CP}   {ops : Array Oper} {o : Oper} {g : Option (CX × Bool)} (h : Ef   vars c loc var R)
    (hg:(match o.guard with
        | none=>some none
        | some (j,want)=>(ops[j]?).bind fun p=>p.dst.bind fun d=>(Ev vars c d).bind fun x=>some (some (x,want)))=some g):
    JY ops R o=some (Bj loc var (Hs c.cnt g))∧∀x b,g=some (x,b)→OF c.cnt x:=by
  unfold JY
  split at hg
  · rename_i he
    injection hg with hg
    subst hg
    try rw[he]
    exact⟨rfl,fun x b e=>by cases e⟩
  · rename_i j want he
    simp only[qh]at hg
    obtain⟨p,h1,d,h2,x,h3,h4⟩:=hg
    injection h4 with h4
    subst h4
    try rw[he]
    refine⟨?_,fun y b e=>by injection e with e;injection e with e1 e2;subst e1;exact Mc h h3⟩
    simp only[h1,h2,Option.bind_some,h.val d x h3,Hs,Bj]
theorem TM         {P : Program} {F : EH}  {nt : Nat} {vars : List Tmp} {ops : Array Oper} {b : Array Nat} {draw : Bool} :
    ∀ (l:List Nat) (c:cY) (rs:List (Nat×Gl)) (items:List AA) (loc var:List AV) (s:AE) (var':List AV) (s':AE) (R:CP) (m:List R0),
      E5 P nt vars ops b draw l c rs=some items→El F items loc var s=some (var',s')→Ef vars c loc var R→F6 loc var c.cnt rs m →
      ∃R',Trace P F ops nt b draw l m R s R' s'∧∃c' loc',Ef vars c' loc' var' R':=by
  intro l
  induction l with
  | nil =>
    intro c rs items loc var s var' s' R m hc hi hr hm
    injection hc with hc
    subst hc
    have hi:some (var,s)=some (var',s'):=hi
    injection hi with hi
    injection hi with h1 h2
    subst h1;subst h2
    exact⟨R,.nil,c,loc,hr⟩
  | cons i l ih =>
    intro c rs items loc var s var' s' R m hc hi hr hm
    simp only[E5,qh]at hc
    obtain⟨o,ho,sh,hsh,xs,hxs,hc⟩:=hc
    split at hc
    ·
      rename_i x d hal hd
      obtain⟨hlt,hc⟩:=AI hc
      have hlt:d<nt:=by simpa[rJ]using hlt
      have hx1:xs=[x]∧Kp vars (l.map fun j=>(ops.getD j default).dst) o x=true:=by
        split at hal
        · rename_i y
          cases ha:Kp vars (l.map fun j=>(ops.getD j default).dst) o y with
          | true=>rw[ha]at hal;injection hal with hal;subst hal;exact⟨rfl,ha⟩
          | false=>rw[ha]at hal;cases hal
        · cases hal
      obtain⟨rfl,ha⟩:=hx1
      simp only[Kp,Bool.and_eq_true]at ha
      obtain⟨⟨⟨a1,a2⟩,a3⟩,_⟩:=ha
      split at a1<;>first | (cases a1;done) | skip
      rename_i y hop
      have hsh':sh=(.p1 some,[y]):=by rw[hop]at hsh;injection hsh with hsh;exact hsh.symm
      subst hsh'
      have hy:Fn vars c y=some x:=by
        simp only[Ia,qh]at hxs
        obtain⟨a,h1,r,h2,h3⟩:=hxs
        injection h3 with h3
        injection h3 with h3 h4
        subst h3
        exact h1
      rw[hd]at a3
      have hpd:CA vars d=none:=by simpa using a3
      have hr':=hr.alias hy hpd
      obtain⟨R',t1,t2⟩:=ih _ rs items loc var s var' s' _ m hc hi hr' hm
      refine⟨R',.cons (sh:=.p1 some) (want:=true) (aS:=[Dw loc var (Cm c.cnt x)]) (v:=Dw loc var (Cm c.cnt x)) (R1:=R.put (some d) (Dw loc var (Cm c.cnt x))) (s1:=s) ho ?_ ?_ ?_,t2⟩
      · refine ⟨⟨[y], hsh, ?_⟩, ?_, by rw [hd], ?_, fun _ => rfl, fun e => by cases e⟩
        · simp[EQ,MR hr hy]
        · unfold JY
          cases hg:o.guard with
          | none=>rfl
          | some g=>rw[hg]at a2;cases a2
        · intro d' e;rw[hd]at e;injection e with e;subst e;exact hlt
      · intro _ e;cases e
      · have:(draw && Sh.isRead (.p1 some))=false:=by cases draw<;>rfl
        rw[this]
        exact t1
    ·
      simp only[qh]at hc
      obtain⟨g,hg,q,hq,hc⟩:=hc
      obtain⟨hpush,hc⟩:=AI hc
      simp only[qh]at hc
      obtain⟨items',hc',hc⟩:=hc
      injection hc with hc
      subst hc
      obtain⟨hw,hgb⟩:=ap (P:=P) hr hg
      have has:=Nh hr hxs
      have hi:MF F _ (El F items') loc var s=some (var',s'):=hi
      have step:∃v s1,(Bj loc var (Hs c.cnt g)=true→cX F sh.1 (EK loc var (xs.map (Cm c.cnt))) s=some (v,s1))∧(Bj loc var (Hs c.cnt g)=false→v=Ar∧s1=s) ∧
          DI (bif Bj loc var (Hs c.cnt g)then ((match draw,sh.1.isEff with
            | true,true=>rs.filter fun(r:Nat×Gl)=>!(b.getD i 0).testBit r.1
            | _,_=>[]).map fun(r:Nat×Gl)=>JQ q.2.cnt r.2)else []) q.1 (El F items') loc var v s1=some (var',s'):=by
        unfold MF at hi
        cases hwt:Bj loc var (Hs c.cnt g)with
        | true =>
          simp only[hwt]at hi
          unfold Kz at hi
          split at hi<;>first | (cases hi;done) | skip
          rename_i p hp
          exact⟨p.1,p.2,fun _=>fD hp,(fun e=>by cases e),hi⟩
        | false =>
          simp only[hwt]at hi
          exact⟨Ar,s,(fun e=>by cases e),fun _=>⟨rfl,rfl⟩,hi⟩
      obtain⟨v,s1,st1,st2,st3⟩:=step
      have fin:∀ (loc1 var1:List AV),Ef vars q.2 loc1 var1 (R.put o.dst v)→F6 loc1 var1 q.2.cnt rs m →
          ((draw && sh.1.isRead)=true→Im loc1 var1 q.2.cnt (i,{ guard:=g,sh:=sh.1,xs,ans:=.loc c.cnt }) ⟨i,sh.1,EK loc var (xs.map (Cm c.cnt)),v,Bj loc var (Hs c.cnt g)⟩) →
          (∀d,o.dst=some d→d<nt) →
          Eg s1 loc1 var1 (bif Bj loc var (Hs c.cnt g)then ((match draw,sh.1.isEff with
            | true,true=>rs.filter fun(r:Nat×Gl)=>!(b.getD i 0).testBit r.1
            | _,_=>[]).map fun(r:Nat×Gl)=>JQ q.2.cnt r.2)else [])=true→El F items' loc1 var1 s1=some (var',s') →
          ∃R',Trace P F ops nt b draw (i::l) m R s R' s'∧∃c' loc',Ef vars c' loc' var' R':=by
        intro loc1 var1 f1 f2 f3 f4 f5 f6
        have hm':F6 loc1 var1 q.2.cnt (bif draw && sh.1.isRead then (i,{ guard:=g,sh:=sh.1,xs,ans:=.loc c.cnt })::rs else rs)
            (bif draw && sh.1.isRead then ⟨i,sh.1,EK loc var (xs.map (Cm c.cnt)),v,Bj loc var (Hs c.cnt g)⟩::m else m):=by
          cases hrd:(draw && sh.1.isRead)with
          | true=>exact .cons (f3 hrd) f2
          | false=>exact f2
        obtain⟨R',t1,t2⟩:=ih _ _ items' loc1 var1 s1 var' s' _ _ hc' f6 f1 hm'
        refine⟨R',.cons ho ⟨⟨sh.2,hsh,has⟩,hw,rfl,f4,st1,st2⟩ ?_ t1,t2⟩
        intro hd he hwt r hr1 hr2 hr3
        rw[hwt,hd,he]at f5
        simp only[cond_true]at f5
        exact Wz f2 f5 r hr1 (fun r' e=>by rw[e,hr2];rfl) hr3
      have newRd:∀ (loc1:List AV),loc1=v::loc→q.2.cnt=c.cnt+1→Im loc1 var q.2.cnt (i,{ guard:=g,sh:=sh.1,xs,ans:=.loc c.cnt }) ⟨i,sh.1,EK loc var (xs.map (Cm c.cnt)),v,Bj loc var (Hs c.cnt g)⟩:=by
        intro loc1 e1 e2
        subst e1
        rw[e2]
        have hbx:∀x∈xs,OF c.cnt x:=by
          have:∀ (l:List Operand) (xs:List CX),Ia vars c l=some xs→∀x∈xs,OF c.cnt x:=by
            intro l
            induction l with
            | nil=>intro xs h;injection h with h;subst h;intro x hx;cases hx
            | cons a l ih =>
              intro xs h
              simp only[Ia,qh]at h
              obtain⟨y,h1,r,h2,h3⟩:=h
              injection h3 with h3
              subst h3
              intro x hx
              cases hx with
              | head=>exact MQ hr h1
              | tail _ hx=>exact ih r h2 x hx
          exact this _ _ hxs
        refine⟨rfl,rfl,Jt hbx,?_,?_,fun x hx=>(hbx x hx).succ,⟨c.cnt,rfl,rP _⟩,fun x b e=>(hgb x b e).succ⟩
        · simp only[Cm,Dw]
          rw[show c.cnt+1 - 1 - c.cnt=0 from by omega]
          rfl
        · cases g with
          | none=>rfl
          | some g =>
            obtain⟨x,b⟩:=g
            simp only[Hs,Bj]
            rw[FH (hgb x b rfl)]
      have ifsome:∀ {α:Type} {c:Bool} {x:Option α} {y:α},(bif c then x else none)=some y→c=true∧x=some y:=by
        intro α c x y h
        cases c with
        | true=>exact⟨rfl,h⟩
        | false=>cases h
      split at hq
      · rename_i hd
        injection hq with hq
        subst hq
        simp only[DI]at st3
        obtain⟨k1,k2⟩:=ifsome st3
        have hput:R.put o.dst v=R:=by rw[hd];rfl
        exact fin (v::loc) var (by rw[hput];exact hr.pushNone v) (hm.push v) (fun _=>newRd _ rfl rfl) (fun d e=>by rw[hd]at e;cases e) k1 k2
      · rename_i d hd
        obtain⟨hlt,hq⟩:=AI hq
        have hlt:d<nt:=by simpa[rJ]using hlt
        have hdl:∀d',o.dst=some d'→d'<nt:=fun d' e=>by rw[hd]at e;injection e with e;subst e;exact hlt
        split at hq
        · rename_i j hj
          obtain⟨hal,hq⟩:=AI hq
          injection hq with hq
          subst hq
          simp only[Bool.and_eq_true]at hal
          simp only[DI]at st3
          obtain⟨k1,k2⟩:=ifsome st3
          refine fin loc (Mq v var j) (by rw[hd];exact hr.set v hj hal.1) (hm.set v hal.2) ?_ hdl k1 k2
          intro hrd
          rw[hrd]at hpush
          cases hpush
        · rename_i hj
          injection hq with hq
          subst hq
          simp only[DI]at st3
          obtain⟨k1,k2⟩:=ifsome st3
          exact fin (v::loc) var (by rw[hd];exact hr.push v hj) (hm.push v) (fun _=>newRd _ rfl rfl) hdl k1 k2
end
end Go.Proofs.Ytilhhmkdcoajnaa.Am
