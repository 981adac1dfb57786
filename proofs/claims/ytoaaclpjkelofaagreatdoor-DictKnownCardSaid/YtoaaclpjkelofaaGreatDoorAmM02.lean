/- append: the abstract machine's against the model's, whatever capacity is drawn; conditions: none. -/
import Derived.Test.YtoaaclpjkelofaaGreatDoorAmM01
import Derived.Maps.Keyed
import Derived.DeepKeys3
import Derived.Maps.Own
import Derived.Lib.SlMapMerge
import Derived.Lib.UnsafeStr
import Derived.Lib.MakeNoZero
import Derived.Lib.Bytealg
import Derived.Lib.Builder
import Derived.KernelRfl
set_option linter.unusedVariables false
set_option linter.unusedSimpArgs false
namespace Go.Proofs.YtoaaclpjkelofaaGreatDoor.Am
open Go
noncomputable section
section
variable{P:Program}{ρ ρ1 ρ2:A5}{s s1 s2:AD}{w w1 w2:World}
theorem As.drawn(h:As P ρ s w)(d:Nat):As P ρ s { w with drawn:=d }:=
 ⟨fun i o rb hi hr=>(h.obj i o rb hi hr).mono (A5.le_refl ρ) rfl,h.lt,h.sep,h.glb⟩
theorem Fr.drawn'(d:Nat):Fr ρ s w ρ s { w with drawn:=d }:=
 ⟨A5.le_refl ρ,fun _ h _=>h,tJ _,tJ _,rfl,rfl,rfl,fun _ _ _=>rfl,fun _ h=>.inl h,fun _ _ _=>rfl,fun i rb=>NP i rb,fun _ o _ h _=>⟨o,h⟩⟩
theorem As.split  (h : As  P ρ s w) {i : Nat} {r rj : CG}   {rb rbj : RB} (hg : s.heap.get i = some (.row r)) (hr : ρ i = some rb) (hown : B8    r.mode = true)
    (hsole:∀k ok rk,k≠i→s.heap.get k=some ok→ρ k=some rk→rk.b≠rb.b) (hf:ρ s.next=none)
    (hn2:s2.next=s.next) (hk2:∀k,k≠i→s2.heap.get k=s.heap.get k)
    (hi2:s2.heap.get i=none∨∃r',s2.heap.get i=some (.row r')∧B8 r'.mode=false∧BF ρ w1 r' rb)
    (hj:BF (Bh ρ s.next rbj) w1 rj rbj) (hbj:rbj.b=rb.b) (hpar:s2.heap.get i=none∨rj.par=some i)
    (hsz:w1.heap.size=w.heap.size) (hkeep:∀b,b≠rb.b→w1.heap[b]? = w.heap[b]?) (hos:w1.os=w.os) (htape:w1.tape=w.tape) (hout:w1.output=w.output):
    As P (Bh ρ s.next rbj) (newObj s2 (.row rj)) w1∧Fr ρ s w (Bh ρ s.next rbj) (newObj s2 (.row rj)) w1:=by
  have hle:=A2 (rb:=rbj) hf
  have hin:i≠s.next:=fun e=>by rw[e,hf]at hr;cases hr
  have hget:∀k,(newObj s2 (.row rj)).heap.get k=if k=s.next then some (.row rj)else s2.heap.get k:=fun k=>by rw[Ai,hn2]
  have hglb:∀k ok g,(newObj s2 (.row rj)).heap.get k=some ok→EY ok=some g→∃r,Bh ρ s.next rbj k=some r:=by
    intro k ok g hk hg'
    rw[hget]at hk
    by_cases e:k=s.next
    · subst e;exact⟨_,AO _ _⟩
    · rw[if_neg e]at hk
      by_cases ei:k=i
      · subst ei;exact⟨_,hle _ _ hr⟩
      · rw[hk2 k ei]at hk
        obtain⟨r1,h1⟩:=h.glb k ok g hk hg'
        exact⟨r1,hle _ _ h1⟩
  refine⟨⟨?_,?_,?_,hglb⟩,?_⟩
  · intro k ok rk hk hrk
    rw[hget]at hk
    by_cases e:k=s.next
    · subst e
      rw[if_pos rfl]at hk
      injection hk with hk
      rw[AO]at hrk
      injection hrk with hrk
      subst hk;subst hrk
      exact hj
    · rw [if_neg e] at hk
      rw[AL rbj e]at hrk
      by_cases ei:k=i
      · subst ei
        rw[hr]at hrk
        injection hrk with hrk
        subst hrk
        rcases hi2 with h0 | ⟨r',h1,_,h2⟩
        · rw[h0]at hk;cases hk
        · rw[h1]at hk
          injection hk with hk
          subst hk
          exact DK.mono (o:=.row r') (w:=w1) (w1:=w1) h2 hle rfl
      · rw[hk2 k ei]at hk
        exact(h.obj k ok rk hk hrk).mono hle (hkeep _ (hsole k ok rk ei hk hrk))
  · intro k rk hrk
    by_cases e:k=s.next
    · subst e
      rw[AO]at hrk
      injection hrk with hrk
      subst hrk
      rw[hbj,hsz]
      exact h.lt i rb hr
    · rw [AL           rbj e] at hrk
      rw[hsz]
      exact h.lt k rk hrk
  · intro a c oa oc ra rc hne ha hc hra hrc hbb hwc
    rw[hget]at ha hc
    by_cases ea:a=s.next
    · subst ea
      rw[if_pos rfl]at ha
      rw[AO]at hra
      injection hra with hra
      subst hra
      have ec:c≠s.next:=fun e=>hne e.symm
      rw[if_neg ec]at hc
      rw[AL rbj ec]at hrc
      by_cases eci:c=i
      · subst eci
        rcases hi2 with h0 | ⟨r',h1,h2,_⟩
        · rw[h0]at hc;cases hc
        · rw[h1]at hc
          injection hc with hc
          subst hc
          simp[wr,h2]at hwc
      · rw[hk2 c eci]at hc
        exact absurd (hbb.symm.trans hbj) (hsole c oc rc eci hc hrc)
    · rw [if_neg ea] at ha
      rw[AL rbj ea]at hra
      by_cases ec:c=s.next
      · subst ec
        rw[if_pos rfl]at hc
        injection hc with hc
        subst hc
        rw[AO]at hrc
        injection hrc with hrc
        subst hrc
        by_cases eai:a=i
        · subst eai
          rcases hi2 with h0 | ⟨r',h1,h2,_⟩
          · rw[h0]at ha;cases ha
          · rw[h1]at ha
            injection ha with ha
            subst ha
            rcases hpar with hp | hp
            · rw[h1]at hp;cases hp
            · exact⟨hp,by simpa[wr]using h2⟩
        · rw[hk2 a eai]at ha
          exact absurd (hbb.trans hbj) (hsole a oa ra eai ha hra)
      · rw [if_neg ec] at hc
        rw[AL rbj ec]at hrc
        by_cases eci:c=i
        · subst eci
          rcases hi2 with h0 | ⟨r',h1,h2,_⟩
          · rw[h0]at hc;cases hc
          · rw[h1]at hc
            injection hc with hc
            subst hc
            simp[wr,h2]at hwc
        · rw[hk2 c eci]at hc
          by_cases eai:a=i
          · subst eai
            rw[hr]at hra
            injection hra with hra
            subst hra
            exact absurd hbb.symm (hsole c oc rc eci hc hrc)
          · rw[hk2 a eai]at ha
            exact h.sep a c oa oc ra rc hne ha hc hra hrc hbb hwc
  · refine ⟨hle, ?_, by simp [newObj, hn2], by omega, hos, htape, hout, ?_, ?_, ?_, fun k rk hk h0 => ?_, fun k ok rk hk h0 => ?_⟩
    · intro k hk hrk
      have:k≠s.next:=by simp[newObj,hn2]at hrk;omega
      rw[AL rbj this];exact hk
    · intro b _ hno
      exact hkeep b (fun e=>hno ⟨i,_,rb,hg,by simpa[wr]using hown,hr,e.symm⟩)
    · rintro b ⟨k, ok, rk, hk, hwk, hrk, rfl⟩
      rw[hget]at hk
      by_cases e:k=s.next
      · subst e
        rw[AO]at hrk
        injection hrk with hrk
        subst hrk
        exact .inl ⟨i,_,rb,hg,by simpa[wr]using hown,hr,hbj.symm⟩
      · rw [if_neg e] at hk
        rw[AL rbj e]at hrk
        by_cases ei:k=i
        · subst ei
          exact .inl ⟨k,_,rk,hg,by simpa[wr]using hown,hrk,rfl⟩
        · rw[hk2 k ei]at hk
          exact .inl ⟨k,ok,rk,hk,hwk,hrk,rfl⟩
    · intro k hrk hk
      rw[hget,if_neg (by simp only[newObj]at hk;omega)]
      have:k≠i:=fun e=>by rw[e,hr]at hrk;cases hrk
      exact hk2 k this
    · by_cases e : k = s.next
      · subst e;rw[AO]at hk;injection hk with hk;subst hk;exact .inr ⟨i,_,rb,hg,hr,hbj.symm⟩
      · rw[AL rbj e,h0]at hk;cases hk
    · rw[hget]at hk
      by_cases e:k=s.next
      · subst e;rw[hf]at h0;cases h0
      · rw[if_neg e]at hk
        by_cases ei:k=i
        · subst ei;exact⟨_,hg⟩
        · rw[hk2 k ei]at hk;exact⟨ok,hk⟩
theorem Ow        (newLen : Nat) : ∀ (k c : Nat), c < newLen → Builtin.growBy newLen k c ≤ 2 * newLen + 192
  | 0,c,h=>by simp only[Builtin.growBy];omega
  | k + 1, c, h => by
    simp only[Builtin.growBy]
    split
    · omega
    · by_cases h2 : c + (c + 768) / 4 < newLen
      · exact Ow newLen k _ h2
      · have:Builtin.growBy newLen k (c+(c+768) / 4)=c+(c+768) / 4:=by
          cases k with
          | zero=>rfl
          | succ k=>simp only[Builtin.growBy];rw[if_pos (by omega)]
        rw[this];omega
theorem VN{need cap:Nat}(h:cap<need):Builtin.nextslicecap need cap≤2 * need+192:=by
  unfold Builtin.nextslicecap
  split
  · omega
  · split
    · omega
    · exact Ow need 4 cap h
theorem gr(d:TypeDesc)(h:∀k,d≠.int k):(match d with | .int _=>true | _=>false)=false:=by
 cases d<;>first | rfl | exact absurd rfl (h _)
theorem St{e:TypeId}{n:Nat}(h:DL P e=some n):∃i,(∀w,(typeInfo e).run P w=.ok i w)∧i.bytes=n:=by
 unfold DL at h
 split at h
 ·injection h with h;rename_i i hi;exact⟨i,fun w=>by simp[typeInfo,hi],h⟩
 ·cases h
structure Vy(P:Program)(e xt:TypeId)(size n:Nat)(x':Value)(new:Array Value)(w:World):Prop where
 ok:(∃d,P.underlying xt=some d∧(∀k,d≠.int k)∧(Builtin.lenOf x').run P w=.ok n w∧∀d,(Builtin.firstCells size n x').run P { w with drawn:=d }=.ok new { w with drawn:=d }) ∨
  (∃k kd,P.underlying xt=some (.int k)∧x'=.int kd (n:Int)∧n≤1099511627776∧n≠0∧∃z,(∀w,(zeroValue e).run P w=.ok z w)∧z.cells.size=size∧new=Builtin.zeroCells z.cells n)
theorem Cq{st xt ty e:TypeId}{size by_ n sLen sCap:Nat}{base:Option Addr}{x':Value}{new:Array Value}
    (hu:P.underlying st=some (.slice e)) (hs:A1 P e=some size) (hby:DL P e=some by_) (hsz:size≠0) (hb:(sLen+n) * by_≤1099511627776)
    (hx:Vy P e xt size n x' new w) (hle:sLen+n≤sCap)
    (hst:match base with | some a=>(storeCells (a.add (sLen * size)) new.toList).run P w=.ok () w1 | none=>w1=w):
    (Builtin.append_ #[st,xt] ty #[.slice base sLen sCap,x']).run P w=.ok (.slice base (sLen+n) sCap) w1:=by
  rcases hx.ok with⟨d,hd,hnd,hn,hfc⟩ | ⟨k,kd,hk,rfl,hn,hn0,z,hz,hzs,hnew⟩
  · have hm := gr     d hnd
    have hfc:=hfc w.drawn
    cases base with
    | none =>
      simp only at hst
      subst hst
      simp[Builtin.append_,AH hu,Ar hs,AH hd,hn,hle,hfc]
    | some a =>
      simp only at hst
      simp[Builtin.append_,AH hu,Ar hs,AH hd,hn,hle,hfc,hst]
  · obtain⟨i,hi,hi2⟩:=St hby
    have hw:IntKind.i64.wrap (n:Int)=(n:Int):=MG (k:=.i64) (n:=Int.ofNat n) (by simp[BM,tK];omega)
    have h0:¬ ((n:Int)<0):=by omega
    have hm1:n * by_≤1099511627776:=tN (td _ (Nat.le_add_left _ _)) hb
    have h1:¬ ((281474976710656:Int)<(n:Int) * (i.bytes:Int)):=by
      rw[hi2]
      have:((n * by_:Nat):Int)≤1099511627776:=by omega
      have e:((n * by_:Nat):Int)=(n:Int) * (by_:Int):=by simp
      omega
    cases base with
    | none =>
      simp only at hst
      subst hst
      simp[Builtin.append_,AH hu,Ar hs,AH hk,asInt,asIntOf,hw,hi,h0,h1,hle,hz]
    | some a =>
      simp only at hst
      rw[hnew]at hst
      have hns:n * size≠0:=Nat.mul_ne_zero hn0 hsz
      simp[Builtin.append_,AH hu,Ar hs,AH hk,asInt,asIntOf,hw,hi,h0,h1,hle,hns,hz,hst]
theorem run_append_grow{st xt ty e:TypeId}{size by_ n sLen sCap:Nat}{base:Option Addr}{x':Value}{old new:Array Value}{z:Value}
    (hu:P.underlying st=some (.slice e)) (hs:A1 P e=some size) (hby:DL P e=some by_) (hsz:size≠0)
    (hb:(sLen+n) * by_≤1099511627776) (hb2:sLen+n≤1099511627776)
    (hx:Vy P e xt size n x' new w) (hgt:sCap<sLen+n) (hz:∀w,(zeroValue e).run P w=.ok z w)
    (hold:∀d,(Builtin.firstCells size sLen (.slice base sLen sCap)).run P { w with drawn:=d }=.ok old { w with drawn:=d }):
    ∃newCap,sLen+n≤newCap∧(Builtin.append_ #[st,xt] ty #[.slice base sLen sCap,x']).run P w =
      .ok (.slice (some ⟨w.heap.size,0,none⟩) (sLen+n) newCap) (World.alloc { w with drawn:=w.drawn+1 } (.cells (old++new++Builtin.zeroCells z.cells (newCap - (sLen+n))) e)):=by
  obtain⟨i,hi,hi2⟩:=St hby
  have hcap:=VN hgt
  have hnc:¬ (281474976710656:Nat)<Builtin.nextslicecap (sLen+n) sCap * i.bytes:=by
    rw[hi2]
    have h1:Builtin.nextslicecap (sLen+n) sCap * by_≤(2 * (sLen+n)+192) * by_:=td _ hcap
    have h2:by_≤(sLen+n) * by_:=Nat.le_mul_of_pos_left _ (by omega)
    have h3:(2 * (sLen+n)+192) * by_=2 * ((sLen+n) * by_)+192 * by_:=by rw[tj,tb]
    omega
  have hle:¬ sLen+n≤sCap:=by omega
  have hmax:¬ ((9223372036854775807:Int)<((sLen:Int)+(n:Int))):=by omega
  let q:Question:=.appendCap (sLen+n) sCap e
  let newCap:=q.cut (w.tape w.drawn q)
  have hq:sLen+n≤newCap:=by simp[newCap,q,Question.cut]
  refine⟨newCap,hq,?_⟩
  have hf:q.forced=false:=rfl
  have hold:(Builtin.firstCells size sLen (.slice base sLen sCap)).run P w.drew=.ok old w.drew:=hold (w.drawn+1)
  rcases hx.ok with⟨d,hd,hnd,hn,hfc⟩ | ⟨k,kd,hk,rfl,hn,hn0,z',hz',hzs,hnew⟩
  · have hm := gr     d hnd
    have hfc:(Builtin.firstCells size n x').run P w.drew=.ok new w.drew:=hfc (w.drawn+1)
    simp[Builtin.append_,AH hu,Ar hs,AH hd,hle,hn,hi,hmax,hnc,hold,hfc,hz,newRow,IntKind.max,IntKind.signed,IntKind.bits]
    simp[newCap,q,hf]
  · have hw : IntKind.i64.wrap (n : Int) = (n : Int) := MG      (k := .i64) (n := Int.ofNat n) (by simp [BM,      tK];         omega)
    have h0:¬ ((n:Int)<0):=by omega
    have hm1:n * by_≤1099511627776:=tN (td _ (Nat.le_add_left _ _)) hb
    have h1:¬ ((281474976710656:Int)<(n:Int) * (i.bytes:Int)):=by
      rw[hi2]
      have:((n * by_:Nat):Int)≤1099511627776:=by omega
      have e:((n * by_:Nat):Int)=(n:Int) * (by_:Int):=by simp
      omega
    have hzz:z'=z:=by
      have:=hz' w
      rw[hz w]at this
      injection this with this
      exact this.symm
    subst hzz
    have hns:n * size≠0:=Nat.mul_ne_zero hn0 hsz
    simp[Builtin.append_,AH hu,Ar hs,AH hk,asInt,asIntOf,hw,hi,h0,h1,hle,hns,hz,hmax,hnc,hold,newRow,IntKind.max,IntKind.signed,IntKind.bits]
    simp[newCap,q,hf,hnew]
theorem Ln          (ρ : A5)  {e : TypeId} {size : Nat} (h : Cj     P e size = true) : ∃ z z', Dy    P e = some z ∧ AM   ρ z z' ∧ (∀ w, (zeroValue e).run P w = .ok z' w) ∧ z'.cells.size = size ∧ z.cells.length = size := by
  unfold Cj at h
  split at h
  · rename_i z hz
    have hl:=Ae h
    have key:∃z',(∀w,(zeroValue e).run P w=.ok z' w)∧AM ρ z z':=by
      unfold Dy at hz
      split at hz
      · split at hz
        · rename_i i hi _ v hv
          exact⟨v,fun w=>by simp[zeroValue,typeInfo,hi,hv],Br ρ hz⟩
        · cases hz
      · cases hz
    obtain⟨z',h1,h2⟩:=key
    have:=h2.cells.length
    exact⟨z,z',hz,h2,h1,by simp at this;omega,hl⟩
  · cases h
theorem IP{z:AV}{z':Value}{size:Nat}(hz:AM ρ z z')(hl:z.cells.length=size)(hs:z'.cells.size=size)(n:Nat):
  AJ ρ (VV z.cells n) (Builtin.zeroCells z'.cells n).toList:=by
 have:=RS (c:=n) hz hl
 unfold Builtin.zeroCells
 rw[hs]
 rw[hs]at this
 exact this
theorem Tk(h:As P ρ s w){e xt:TypeId}{size:Nat}{x:AV}{x':Value}{src:Nat×List AV}
  (hg:(match x with | .int ..=>VC P xt | _=>Bp P xt)=true) (hs:B4 P s e size x=some src) (hx:AM ρ x x'):
  ∃new:Array Value,AJ ρ src.2 new.toList∧Vy P e xt size src.1 x' new w∧new.size=src.1 * size:=by
 have hslice:(∃d,P.underlying xt=some d∧∀k,d≠.int k)∨∃k n,x=.int k n:=by
  cases x with
  | int k n=>exact .inr ⟨k,n,rfl⟩
  | _ =>
   refine .inl ?_
   simp only[Bp]at hg
   split at hg
   ·rename_i hd;exact⟨_,hd,by simp⟩
   ·rename_i hd;exact⟨_,hd,by simp⟩
   ·cases hg
 unfold B4 at hs
 split at hs
 ·rename_i kd n
  obtain⟨hb,hs⟩:=AA hs
  simp only[Bool.and_eq_true,tK,tP]at hb
  simp only[tH]at hs
  obtain⟨z,hz,hs⟩:=hs
  obtain⟨hl,hs⟩:=AA hs
  injection hs with hs
  subst hs
  obtain⟨z0,z',hz0,h1,h2,h3,h4⟩:=Ln ρ (P:=P) (e:=e) (size:=size) (by simp[Cj,hz,hl])
  rw[hz]at hz0
  injection hz0 with hz0
  subst hz0
  cases hx
  have hk:∃k,P.underlying xt=some (.int k):=by
   simp only[VC]at hg
   split at hg
   ·rename_i k hk;exact⟨k,hk⟩
   ·cases hg
  obtain⟨k,hk⟩:=hk
  exact⟨Builtin.zeroCells z'.cells n,IP h1 h4 h3 n,⟨.inr ⟨k,kd,hk,rfl,hb.1,by omega,z',h2,h3,rfl⟩⟩,by simp[Builtin.zeroCells,h3]⟩
 ·injection hs with hs
  subst hs
  obtain⟨d,hd,hnd⟩:=hslice.resolve_right (by simp)
  cases hx
  exact⟨#[],.nil,⟨.inl ⟨d,hd,hnd,rfl,fun _=>rfl⟩⟩,by simp⟩
 ·rename_i i o n cap
  simp only[tH]at hs
  obtain⟨l,hl,hs⟩:=hs
  injection hs with hs
  subst hs
  obtain⟨d,hd,hnd⟩:=hslice.resolve_right (by simp)
  unfold Vn at hl
  cases hn0:Nat.beq n 0 with
  | true =>
   rw[hn0]at hl
   injection hl with hl
   subst hl
   have:=Ae hn0
   subst this
   cases hx<;>exact⟨#[],by simpa using AJ.nil,⟨.inl ⟨d,hd,hnd,rfl,fun d=>by simp[Builtin.firstCells,loadCells,loadCellsFrom]⟩⟩,by simp⟩
  | false =>
  rw[hn0]at hl
  simp only[cond_false]at hl
  cases hx with
  | slice hr hlc =>
   obtain⟨l',h1,h2,h3⟩:=B2 h hr hl
   exact⟨l'.toArray,by simpa using h1,⟨.inl ⟨d,hd,hnd,rfl,fun d=>h3 _ rfl⟩⟩,by simpa using h2⟩
  | sliceOpen hr hsz hlc h1 h2 =>
   obtain⟨l',h1,h2,h3⟩:=B2 h hr hl
   exact⟨l'.toArray,by simpa using h1,⟨.inl ⟨d,hd,hnd,rfl,fun d=>h3 _ rfl⟩⟩,by simpa using h2⟩
  | sliceEnd hr hsz h1 h2 =>
   obtain⟨l',h1,h2,h3⟩:=B2 h hr hl
   have hl0:l'=[]:=by simpa using h2
   subst hl0
   cases h1
   exact⟨#[],by simpa using AJ.nil,⟨.inl ⟨d,hd,hnd,rfl,fun d=>by simp[Builtin.firstCells,loadCells,loadCellsFrom]⟩⟩,by simp⟩
 ·rename_i l
  obtain⟨hb,hs⟩:=AA hs
  injection hs with hs
  subst hs
  obtain⟨d,hd,hnd⟩:=hslice.resolve_right (by simp)
  cases hx with
  | str hl =>
   rename_i b
   subst hl
   have hsz1:=Ae hb
   have hlen:(List.map (fun(b:UInt8)=>b.toNat) b.data.toList).length=b.size:=by simp
   refine⟨(b.extract 0 b.size).data.map fun b=>.int .u8 b.toNat,?_,⟨.inl ⟨d,hd,hnd,by simp[Builtin.lenOf,hlen],fun d=>by simp[Builtin.firstCells,hlen]⟩⟩,by simp[hsz1]⟩
   have he:(b.extract 0 b.size).data.toList=b.data.toList:=by simp
   rw[Array.toList_map,he]
   generalize b.data.toList=l
   induction l with
   | nil=>exact .nil
   | cons x l ih=>exact .cons (.int _ _) ih
 ·cases hs
def Vw(P:Program)(ρ:A5)(s:AD)(w:World)(sem:Sem Value)(v:AV)(s':AD):Prop:=
 ∃v' w' ρ',sem.run P w=.ok v' w'∧AM ρ' v v'∧As P ρ' s' w'∧Fr ρ s w ρ' s' w'
theorem AJ.get'{l:List AV}{cs:Array Value}(h:AJ ρ l cs.toList){k:Nat}{v:AV}(hk:l[k]? = some v):∃v',cs[k]? = some v'∧AM ρ v v':=by
 obtain⟨v',h1,h2⟩:=h.get hk
 exact⟨v',by rw[← Array.getElem?_toList];exact h1,h2⟩
theorem Gl(h:As P ρ s w)(hf:ρ s.next=none){e:TypeId}{size n newCap:Nat}{cells:List AV}{v:AV}{cs rest:Array Value}(hs:CB P s e size n cells=some (v,s1))
  (hc:AJ ρ cells cs.toList) (hcs:cs.size=n * size) (hsz:0<size) (hcap:n≤newCap) (hrest:rest.size=(newCap - n) * size):
  ∃ρ',AM ρ' v (.slice (some ⟨w.heap.size,0,none⟩) n newCap)∧As P ρ' s1 (World.alloc w (.cells (cs++rest) e))∧Fr ρ s w ρ' s1 (World.alloc w (.cells (cs++rest) e)):=by
 unfold CB at hs
 obtain⟨hz,hs⟩:=AA hs
 injection hs with hs
 injection hs with hs1 hs2
 subst hs1;subst hs2
 have hlen:cells.length=n * size:=by have:=hc.length;simp at this;omega
 have htot:newCap * size=n * size+(newCap - n) * size:=by rw[← tj];congr 1;omega
 have hle:=A2 (rb:=⟨w.heap.size,0,newCap * size,size⟩) hf
 have hblk:(World.alloc w (.cells (cs++rest) e)).heap[w.heap.size]? = some (.cells (cs++rest) e (0,0)):=World.alloc_heap_new w _
 obtain⟨h1,h2⟩:=h.new (o:=Co e size (AE.fill .leaf 0 cells) cells.length none true) (o':=.cells (cs++rest) e) (rb:=⟨w.heap.size,0,newCap * size,size⟩) hf rfl (by
  refine⟨?_,by simp only;omega,rfl,(fun hh=>by cases hh),fun _=>⟨cs++rest,hblk,by simp[hcs,hrest];omega⟩,fun _=>rfl,(fun g hg=>by cases hg),fun p hp=>by cases hp⟩
  intro k v hk hv
  simp only[AE.get_fill,tV,tR,true_and,Nat.sub_zero]at hv
  simp only at hk
  rw[if_pos hk]at hv
  obtain⟨v',g1,g2⟩:=hc.get' hv
  refine⟨v',?_,g2.mono hle⟩
  simp only[World.cell?,hblk,tR]
  have hkc:k<cs.size:=by omega
  simp only[Option.isSome_none,Bool.false_eq_true,if_false]
  rw[Array.getElem?_append_left hkc]
  exact g1)
 refine⟨_,AM.sliceOpen (AO _ _) hsz hcap (by simp) ?_,h1,h2⟩
 simp only[tR]
 exact u4 (by omega) hsz
theorem Il         (h : As  P ρ s w) {i : Nat} {r : CG}   {rb : RB} (hg : s.heap.get i = some (.row r)) (hr : ρ i = some rb) (hown : B8    r.mode = true) :
    As P ρ (A3 s i r) w∧Fr ρ s w ρ (A3 s i r) w∧(A3 s i r).next=s.next∧(A3 s i r).heap.get i=some (.row r) ∧
    (∀k ok rk,k≠i→(A3 s i r).heap.get k=some ok→ρ k=some rk→rk.b≠rb.b)∧(∀p,r.par=some p→p≠i→(A3 s i r).heap.get p=none):=by
  have hok:BF ρ w r rb:=h.obj i _ rb hg hr
  unfold A3
  split
  · rename_i hp
    refine⟨h,Fr.refl _ _ _,rfl,hg,fun k ok rk hne hk hrk e=>?_,fun p hp'=>by rw[hp]at hp';cases hp'⟩
    have:=(h.sep k i ok _ rk rb hne hk hg hrk hr e (by simpa[wr]using hown)).1
    simp[FJ,hp]at this
  · rename_i p hp
    by_cases hpi:p=i
    · have:Nat.beq p i=true:=by rw[hpi];simp[uO]
      rw[this]
      refine⟨h,Fr.refl _ _ _,rfl,hg,fun k ok rk hne hk hrk e=>?_,fun q hq hqi=>by rw[hp]at hq;injection hq with hq;exact absurd (hq.symm.trans hpi) hqi⟩
      have:=(h.sep k i ok _ rk rb hne hk hg hrk hr e (by simpa[wr]using hown)).1
      simp[FJ,hp]at this
      exact hne (this.symm.trans hpi)
    · rw[AE.beq_no hpi]
      obtain⟨rp,hrp⟩:=hok.par p hp
      obtain⟨hd,hfd⟩:=h.del hrp
      refine⟨hd,hfd,rfl,by show(Bx s p).heap.get i=_;rw[BA,if_neg (fun e=>hpi e.symm)];exact hg,fun k ok rk hne hk hrk e=>?_,fun q hq _=>by
        rw[hp]at hq
        injection hq with hq
        subst hq
        show(Bx s p).heap.get p=none
        rw[BA,if_pos rfl]⟩
      have hk':(Bx s p).heap.get k=some ok:=hk
      rw[BA]at hk'
      by_cases hkp:k=p
      · rw[if_pos hkp]at hk';cases hk'
      · rw[if_neg hkp]at hk'
        have:=(h.sep k i ok _ rk rb hne hk' hg hrk hr e (by simpa[wr]using hown)).1
        simp[FJ,hp]at this
        exact hkp this.symm
theorem Tf(i:Nat)(r:CG)(ends:Bool)(k:Nat)(hk:k≠i):(CQ s i r ends).heap.get k=(A3 s i r).heap.get k:=by
 unfold CQ
 cases ends with
 | true=>simp only[cond_true];rw[BJ,if_neg hk]
 | false=>simp only[cond_false];rw[BA,if_neg hk]
theorem J0(i:Nat)(r:CG)(ends:Bool)(hn:(A3 s i r).next=s.next):(CQ s i r ends).next=s.next:=by
 unfold CQ
 cases ends with
 | true=>exact hn
 | false=>exact hn
theorem D5{i off n:Nat}{l:List AV}{r:CG}(hrow:rowAt s i=some r)(hl:BG s i off n=some l):off+n≤r.n∧r.c.take off n=some l:=by
 unfold BG at hl
 rw[hrow]at hl
 obtain⟨hb,hl⟩:=AA (by simpa using hl)
 exact⟨by simpa[tK]using hb,hl⟩
theorem PY{r:CG}{o m:Nat}{old new:List AV}(ht:r.c.take o m=some old)(k:Nat)(hk:k<(old++new).length):
    (bif Nat.beq o 0 then r.c.fill m new else AE.fill .leaf 0 (old++new)).get k=(old++new)[k]? := by
  have hlen:=AE.take_length ht
  by_cases h0:o=0
  · subst h0
    simp only[show Nat.beq 0 0=true from rfl,cond_true,AE.get_fill]
    by_cases h1:k<m
    · rw[if_neg (by omega),uB (by omega)]
      have:=AE.take_get ht k h1
      simpa using this
    · simp only[tX]at hk
      rw[if_pos (by omega),uC (by omega),hlen]
  · rw[AE.beq_no h0]
    simp only[cond_false,AE.get_fill,tV,tR,true_and,Nat.sub_zero]
    rw[if_pos hk]
theorem SF          (h : As  P ρ s w) (hf : ρ s.next = none) {e : TypeId} {size i o len cap : Nat} {src : Nat × List AV} {r : CG}   {rb : RB} {old : List AV} {v : AV} {new : Array Value}
    (hs:EJ P s e size i o len src r old=some (v,s1)) (hrow:rowAt s i=some r) (hr:ρ i=some rb) (hl:BG s i o (len * size)=some old)
    (hnew:AJ ρ src.2 new.toList) (hns:new.size=src.1 * size) (hall:Ag src.2=true) (hsz:0<size) (hle:len+src.1≤cap) (h1:o+cap * size≤rb.N) (h2:rb.N<o+(cap+1) * size)
    (hgt:r.n<o+(len+src.1) * size):
    ∃w1 ρ',(storeCells ⟨rb.b,rb.off+o+len * size,none⟩ new.toList).run P w=.ok () w1∧AM ρ' v (.slice (some ⟨rb.b,rb.off+o,none⟩) (len+src.1) cap)∧As P ρ' s1 w1∧Fr ρ s w ρ' s1 w1:=by
  unfold EJ at hs
  obtain⟨hg,hs⟩:=AA hs
  simp only[Bool.and_eq_true]at hg
  obtain⟨⟨hown,hee⟩,_⟩:=hg
  have hee:=tM hee
  injection hs with hs
  injection hs with hs1 hs2
  have hget:=Ap hrow
  have hok:BF ρ w r rb:=h.obj i _ rb hget hr
  obtain⟨hle1,htake⟩:=D5 hrow hl
  have hmode:r.mode≠.ro:=fun e=>by rw[e]at hown;cases hown
  obtain⟨cs,hblk,hszb⟩:=hok.own hmode
  obtain⟨ety,hety⟩:∃x,r.elem=x:=⟨_,rfl⟩
  rw[hety]at hblk
  have hee2:ety=e:=hety.symm.trans hee
  have hoN:o≤rb.N:=by omega
  have hneed:(len+src.1) * size≤cap * size:=td _ hle
  have hsum:(len+src.1) * size=len * size+src.1 * size:=tj _ _ _
  have hfit:rb.off+o+len * size+new.toList.length≤cs.size:=by simp only[Array.length_toList];omega
  have hone:∀x∈new.toList,x.oneCell'=true:=hnew.oneCell hall
  have hrun:=run_storeCells_at P rb.b (rb.off+o+len * size) ety new.toList 0 cs w hblk (by simpa using hfit) hone
  simp only[tZ]at hrun
  generalize hcs1:(cs.toList.take (rb.off+o+len * size)++new.toList++cs.toList.drop (rb.off+o+len * size+new.toList.length)).toArray=cs1 at hrun
  have hblk1:(w.setRow rb.b cs1).heap[rb.b]? = some (.cells cs1 ety (0,0)):=setRow_heap w rb.b cs cs1 ety (0,0) hblk
  have hsize1:cs1.size=cs.size:=by rw[← hcs1];simp;simp at hfit;omega
  have hgetc:∀k,cs1[k]? = if rb.off+o+len * size≤k∧k<rb.off+o+len * size+new.size then new[k - (rb.off+o+len * size)]? else cs[k]? := by
    intro k
    rw[← hcs1,List.getElem?_toArray]
    simp only[Array.length_toList]at hfit ⊢
    by_cases g1:k<rb.off+o+len * size
    · rw[if_neg (by omega),tg,uB (by simp;omega),uZ g1,Array.getElem?_toList]
    · rw[tg,uC (by simp;omega)]
      have hmin:(cs.toList.take (rb.off+o+len * size)).length=rb.off+o+len * size:=by simp;omega
      rw[hmin]
      by_cases g2:k<rb.off+o+len * size+new.size
      · rw[if_pos (by omega),uB (by simp;omega),Array.getElem?_toList]
      · rw[if_neg (by omega),uC (by simp;omega),uk,← Array.getElem?_toList]
        congr 1
        simp
        omega
  obtain⟨hu,hfu,hnu,hgu,hsole,_⟩:=Il h hget hr hown
  have hlenold:=AE.take_length htake
  have hlensrc:src.2.length=src.1 * size:=by have:=hnew.length;simp at this;omega
  have hlenall:(old++src.2).length=(len+src.1) * size:=by simp;omega
  let rbj:RB:=⟨rb.b,rb.off+o,rb.N - o,size⟩
  have hle':ρ.le (Bh ρ (A3 s i r).next rbj):=by rw[hnu];exact A2 (rb:=rbj) hf
  have hcell:∀k,(w.setRow rb.b cs1).cell? ⟨rb.b,k,none⟩=cs1[k]? := fun k=>by simp[World.cell?,hblk1]
  have hcell0:∀k,w.cell? ⟨rb.b,k,none⟩=cs[k]? := fun k=>by simp[World.cell?,hblk]
  have hsplit:=As.split (s2:=CQ s i r (Nat.beq (o+len * size) r.n)) (w1:=w.setRow rb.b cs1) (rbj:=rbj) (i:=i)
    (rj:={ elem:=e,sz:=size,n:=(old++src.2).length,c:=bif Nat.beq o 0 then r.c.fill (len * size) src.2 else AE.fill .leaf 0 (old++src.2),spare:=true,mode:=.own,par:=bif Nat.beq (o+len * size) r.n then some i else none,bytes:=r.bytes && Nat.beq o 0 })
    hu hgu hr hown hsole (by rw[hnu];exact hf) ((J0 i r _ hnu).trans hnu.symm) (fun k hk=>Tf i r _ k hk)
    (by
      cases hends:Nat.beq (o+len * size) r.n with
      | false=>exact .inl (by show(Bx _ i).heap.get i=none;rw[BA,if_pos rfl])
      | true =>
        have hends:=Ae hends
        refine .inr ⟨{ r with mode:=.sealed,par:=none },by show(setObj _ i _).heap.get i=_;rw[BJ,if_pos rfl],rfl,?_⟩
        refine⟨?_,hok.le,hok.sz,hok.tight,fun _=>⟨cs1,by show _=some (Obj.cells cs1 r.elem (0,0));rw[hety];exact hblk1,by rw[hsize1];exact hszb⟩,hok.base,fun g hg=>(let ⟨a1,a2,cs0,e0,pl,a3,a4⟩:=hok.gl g hg;⟨a1,a2,cs1,ety,(0,0),hblk1,by rw[hblk]at a3;injection a3 with a3;injection a3 with a3;subst a3;rw[hsize1];exact a4⟩),fun p hp=>by cases hp⟩
        intro k v hk hv
        obtain⟨v',g1,g2⟩:=hok.cells k v hk hv
        refine⟨v',?_,g2⟩
        rw[hcell,hgetc,if_neg (by simp only at hk;omega)]
        rw[hcell0]at g1
        exact g1)
    (by
      refine⟨?_,by simp only[rbj];omega,rfl,(fun hh=>by cases hh),fun _=>⟨cs1,by rw[← hee2];exact hblk1,by simp only[rbj];omega⟩,(fun hb=>by simp only[Bool.and_eq_true]at hb;have h1:=hok.base hb.1;have h2:=tM hb.2;simp only[rbj];omega),(fun g hg=>by cases hg),?_⟩
      · intro k v hk hv
        simp only at hk hv
        rw[PY htake k hk]at hv
        show ∃v',(w.setRow rb.b cs1).cell? ⟨rb.b,rb.off+o+k,none⟩=some v'∧AM _ v v'
        rw[hcell,hgetc]
        by_cases hk1:k<len * size
        · rw [if_neg (by omega)]
          rw[uB (by omega),← AE.take_get htake k hk1]at hv
          obtain⟨v',g1,g2⟩:=hok.cells (o+k) v (by omega) hv
          refine⟨v',?_,g2.mono hle'⟩
          rw[hcell0]at g1
          rw[show rb.off+o+k=rb.off+(o+k)from by omega]
          exact g1
        · rw [hlenall] at hk
          rw[if_pos (by omega),show rb.off+o+k - (rb.off+o+len * size)=k - len * size from by omega]
          rw[uC (by omega),hlenold]at hv
          obtain⟨v',g1,g2⟩:=hnew.get' hv
          exact⟨v',g1,g2.mono hle'⟩
      · intro p hp
        simp only at hp
        cases hends:Nat.beq (o+len * size) r.n with
        | false=>rw[hends]at hp;cases hp
        | true =>
          rw[hends]at hp
          simp only[cond_true]at hp
          injection hp with hp
          subst hp
          exact⟨rb,hle' _ _ hr⟩)
    rfl
    (by
      cases hends:Nat.beq (o+len * size) r.n with
      | false=>exact .inl (by show(Bx _ i).heap.get i=none;rw[BA,if_pos rfl])
      | true=>exact .inr rfl)
    (by simp) (fun b hb=>setRow_other w rb.b b cs1 hb) rfl rfl rfl
  rw[hnu]at hsplit
  refine⟨w.setRow rb.b cs1,Bh ρ s.next rbj,hrun,?_,?_,?_⟩
  · rw[← hs1]
    have hj:Bh ρ s.next rbj s.next=some rbj:=AO _ _
    have hm1:cap * size≤rb.N - o:=by omega
    have hm2:rb.N - o<(cap+1) * size:=by omega
    exact AM.sliceOpen (rb:=rbj) (o:=0) hj hsz hle (by simpa using hm1) (by simpa using hm2)
  · rw[← hs2];exact hsplit.1
  · rw[← hs2];exact hfu.trans hsplit.2
theorem Ps           (h : As  P ρ s w) (hf : ρ s.next = none) {e : TypeId} {size i o len newCap : Nat} {src : Nat × List AV} {r : CG}   {rb : RB} {old : List AV} {v : AV} {cs rest : Array Value}
    (hs:EJ P s e size i o len src r old=some (v,s1)) (hrow:rowAt s i=some r) (hr:ρ i=some rb) (hl:BG s i o (len * size)=some old)
    (hc:AJ ρ (old++src.2) cs.toList) (hcs:cs.size=(len+src.1) * size) (hsz:0<size) (hcap:len+src.1≤newCap) (hrest:rest.size=(newCap - (len+src.1)) * size):
    ∃ρ',AM ρ' v (.slice (some ⟨w.heap.size,0,none⟩) (len+src.1) newCap)∧As P ρ' s1 (World.alloc w (.cells (cs++rest) e))∧Fr ρ s w ρ' s1 (World.alloc w (.cells (cs++rest) e)):=by
  unfold EJ at hs
  obtain⟨hg,hs⟩:=AA hs
  simp only[Bool.and_eq_true]at hg
  obtain⟨⟨hown,hee⟩,_⟩:=hg
  have hee:=tM hee
  injection hs with hs
  injection hs with hs1 hs2
  have hget:=Ap hrow
  have hok:BF ρ w r rb:=h.obj i _ rb hget hr
  obtain⟨hle1,htake⟩:=D5 hrow hl
  obtain⟨hu,hfu,hnu,hgu,hsole,hpar⟩:=Il h hget hr hown
  have hlen:(old++src.2).length=(len+src.1) * size:=by have:=hc.length;simp only[Array.length_toList]at this;omega
  have htot:newCap * size=(len+src.1) * size+(newCap - (len+src.1)) * size:=by rw[← tj];congr 1;omega
  have hsealed:As P ρ (CQ s i r (Nat.beq (o+len * size) r.n)) w∧Fr ρ (A3 s i r) w ρ (CQ s i r (Nat.beq (o+len * size) r.n)) w:=by
    cases hends:Nat.beq (o+len * size) r.n with
    | false=>exact hu.del hr
    | true =>
      refine hu.set (o1:=.row { r with mode:=.sealed,par:=none }) (w1:=w) hgu hr (by simpa[wr]using hown) hpar rfl rfl (fun _ _=>rfl) rfl rfl rfl ?_
      exact⟨hok.cells,hok.le,hok.sz,hok.tight,fun _=>hok.own (fun e=>by rw[e]at hown;cases hown),hok.base,hok.gl,fun p hp=>by cases hp⟩
  have hns:(CQ s i r (Nat.beq (o+len * size) r.n)).next=s.next:=J0 i r _ hnu
  have hf2:ρ (CQ s i r (Nat.beq (o+len * size) r.n)).next=none:=by rw[hns];exact hf
  generalize hs2':CQ s i r (Nat.beq (o+len * size) r.n)=s2 at *
  have hle:=A2 (rb:=⟨w.heap.size,0,newCap * size,size⟩) hf2
  have hblk:(World.alloc w (.cells (cs++rest) e)).heap[w.heap.size]? = some (.cells (cs++rest) e (0,0)):=World.alloc_heap_new w _
  obtain⟨h1,h2⟩:=hsealed.1.new (o:=Co e size (bif Nat.beq o 0 then r.c.fill (len * size) src.2 else AE.fill .leaf 0 (old++src.2)) (old++src.2).length (bif Nat.beq (o+len * size) r.n then some i else none) (r.bytes && Nat.beq o 0))
    (o':=.cells (cs++rest) e) (rb:=⟨w.heap.size,0,newCap * size,size⟩) hf2 rfl (by
    refine⟨?_,by simp only;omega,rfl,(fun hh=>by cases hh),fun _=>⟨cs++rest,hblk,by simp[hcs,hrest];omega⟩,fun _=>rfl,(fun g hg=>by cases hg),?_⟩
    · intro k v hk hv
      simp only at hk hv
      rw[PY htake k hk]at hv
      obtain⟨v',g1,g2⟩:=hc.get' hv
      refine⟨v',?_,g2.mono hle⟩
      simp only[World.cell?,hblk,tR]
      have hkc:k<cs.size:=by omega
      simp only[Option.isSome_none,Bool.false_eq_true,if_false]
      rw[Array.getElem?_append_left hkc]
      exact g1
    · intro p hp
      simp only at hp
      cases hends:Nat.beq (o+len * size) r.n with
      | false=>rw[hends]at hp;cases hp
      | true =>
        rw[hends]at hp
        simp only[cond_true]at hp
        injection hp with hp
        subst hp
        exact⟨rb,hle _ _ hr⟩)
  refine⟨_,?_,by rw[← hs2];exact h1,by rw[← hs2];exact(hfu.trans hsealed.2).trans h2⟩
  rw[← hs1,← hns]
  refine AM.sliceOpen (AO _ _) hsz hcap (by simp) ?_
  simp only[tR]
  exact u4 (by omega) hsz
end
section
variable{P:Program}{ρ ρ1 ρ2:A5}{s s1 s2:AD}{w w1 w2:World}
theorem CY{i o len:Nat}{cap:Option Nat}{v':Value}(h:AM ρ (.slice (some (i,o)) len cap) v'):
  ∃rb a c,ρ i=some rb∧v'=.slice (some a) len c∧len≤c∧(∀k,cap=some k→c=k∧a=⟨rb.b,rb.off+o,none⟩) ∧
   (cap=none→0<rb.sz∧((a=⟨rb.b,rb.off+o,none⟩∧o+c * rb.sz≤rb.N∧rb.N<o+(c+1) * rb.sz)∨(len=0∧c=0∧o≤rb.N∧rb.N<o+rb.sz))):=by
 cases h with
 | slice hr hl=>exact⟨_,_,_,hr,rfl,hl,(fun k hk=>by injection hk with hk;exact⟨hk,rfl⟩),fun hk=>by cases hk⟩
 | sliceOpen hr hs hl h1 h2=>exact⟨_,_,_,hr,rfl,hl,(fun k hk=>by cases hk),fun _=>⟨hs,.inl ⟨rfl,h1,h2⟩⟩⟩
 | sliceEnd hr hs h1 h2=>exact⟨_,_,_,hr,rfl,tJ _,(fun k hk=>by cases hk),fun _=>⟨hs,.inr ⟨rfl,rfl,h1,h2⟩⟩⟩
theorem FH(a:Addr)(w:World):(loadCells a 0).run P w=.ok #[] w:=rfl
theorem L7(h:As P ρ s w){st xt ty e:TypeId}{size by_ n sLen sCap:Nat}{base:Option Addr}{x':Value}{old:List Value}{oldA:List AV}{new:Array Value}
  (hu:P.underlying st=some (.slice e)) (hs:A1 P e=some size) (hby:DL P e=some by_) (hsz:size≠0)
  (hb:(sLen+n) * by_≤1099511627776) (hb2:sLen+n≤1099511627776)
  (hx:Vy P e xt size n x' new w) (hgt:sCap<sLen+n) (hz:Cj P e size=true)
  (hold:∀w1:World,w1.heap=w.heap→(Builtin.firstCells size sLen (.slice base sLen sCap)).run P w1=.ok old.toArray w1):
  ∃newCap rest,sLen+n≤newCap∧Array.size rest=(newCap - (sLen+n)) * size∧(Builtin.append_ #[st,xt] ty #[.slice base sLen sCap,x']).run P w =
   .ok (.slice (some ⟨w.heap.size,0,none⟩) (sLen+n) newCap) (World.alloc { w with drawn:=w.drawn+1 } (.cells ((old.toArray++new)++rest) e)):=by
 obtain⟨z,z',_,_,h2,h3,_⟩:=Ln ρ hz
 obtain⟨newCap,g1,g2⟩:=run_append_grow (ty:=ty) hu hs hby hsz hb hb2 hx hgt h2 (old:=old.toArray) (fun d=>hold _ rfl)
 exact⟨newCap,_,g1,by simp[Builtin.zeroCells,h3],g2⟩
theorem T6         (h : As  P ρ s w) (hf : ρ s.next = none) {st xt ty : TypeId} {a x v : AV} {a' x' : Value} (hs : Ay      P s [st, xt] [a, x] = some (v, s1)) (ha : AM   ρ a a') (hx : AM   ρ x x') :
    Vw P ρ s w (Builtin.append_ #[st,xt] ty #[a',x']) v s1:=by
  unfold Ay at hs
  split at hs<;>first | (cases hs;done) | skip
  rename_i po xt0 a0 len cap x0 hty hargs
  injection hty with e1 e2
  injection e2 with e2 _
  injection hargs with e3 e4
  injection e4 with e4 _
  subst e1;subst e2;subst e3;subst e4
  split at hs<;>first | (cases hs;done) | skip
  rename_i e hu
  simp only[tH]at hs
  obtain⟨size,hsize,by_,hby,hs⟩:=hs
  obtain⟨hg,hsA⟩:=AA hs
  clear hs
  simp only[Bool.and_eq_true]at hg
  obtain⟨hg0,hg1⟩:=hg
  have hsz:size≠0:=by intro e0;rw[e0]at hg0;cases hg0
  simp only[tH]at hsA
  obtain⟨src,hsrc,hsB⟩:=hsA
  obtain⟨hg2,hs⟩:=AA hsB
  clear hsB
  simp only[Bool.and_eq_true,tK]at hg2
  obtain⟨⟨hall,hb⟩,hb2⟩:=hg2
  obtain⟨new,hnew,hsok,hns⟩:=Tk h hg1 hsrc hx
  have hone:=hnew.oneCell hall
  have hsrclen:src.2.length=src.1 * size:=by have:=hnew.length;simp only[Array.length_toList]at this;omega
  unfold appTo at hs
  split at hs
  ·
    cases ha
    cases hk:Nat.beq src.1 0 with
    | true =>
      rw[hk]at hs
      simp only[cond_true]at hs
      injection hs with hs
      injection hs with hs1 hs2
      subst hs1;subst hs2
      have hk:=Ae hk
      have:=Cq (w:=w) (w1:=w) (ty:=ty) (base:=none) (sLen:=0) (sCap:=0) hu hsize hby hsz (by simpa using hb) hsok (by rw[hk];exact tJ _) rfl
      rw[hk]at this
      exact⟨.slice none 0 0,w,ρ,this,.sliceNil,h,Fr.refl _ _ _⟩
    | false =>
      rw[hk]at hs
      simp only[cond_false]at hs
      have hk:src.1≠0:=fun e0=>by rw[e0]at hk;cases hk
      have hz:Cj P e size=true:=by unfold CB at hs;exact(AA hs).1
      obtain⟨newCap,rest,g1,g2,g3⟩:=L7 (ty:=ty) (oldA:=[]) (base:=none) (sLen:=0) (sCap:=0) h hu hsize hby hsz hb hb2 hsok (by omega) hz (old:=[]) (fun w1 _=>rfl)
      simp only[tR]at g1 g2 g3
      obtain⟨ρ',f1,f2,f3⟩:=Gl (h.drawn (w.drawn+1)) hf hs (newCap:=newCap) (cs:=[].toArray++new) (rest:=rest) (by simpa using hnew) (by simpa using hns) (by omega) g1 g2
      exact⟨_,_,ρ',g3,f1,f2,(Fr.drawn' (w.drawn+1)).trans f3⟩
  · rename_i i o
    obtain⟨rb,ad,c,hr,hv,hlc,hexact,hopen⟩:=CY ha
    subst hv
    split at hs
    ·
      rename_i c0
      obtain⟨rfl,rfl⟩:=hexact c0 rfl
      unfold Gk at hs
      cases hfit:Nat.ble (len+src.1) c with
      | true =>
        rw[hfit]at hs
        simp only[cond_true,tH]at hs
        obtain⟨s',hst,hs⟩:=hs
        injection hs with hs
        injection hs with hs1 hs2
        subst hs1;subst hs2
        have hfit:len+src.1≤c:=by simpa[tK]using hfit
        obtain⟨w1,k1,k2,k3⟩:=E4 h hr hst hnew
        have:=Cq (w:=w) (w1:=w1) (ty:=ty) (base:=some ⟨rb.b,rb.off+o,none⟩) (sLen:=len) (sCap:=c) hu hsize hby hsz hb hsok hfit (by simp only[By];rw[show rb.off+o+len * size=rb.off+(o+len * size)from by omega];exact k1)
        exact⟨_,w1,ρ,this,.slice (k3.le _ _ hr) hfit,k2,k3⟩
      | false =>
        rw[hfit]at hs
        simp only[cond_false,tH]at hs
        obtain⟨old,hold,hs⟩:=hs
        have hfit:c<len+src.1:=by
          rcases tL c (len+src.1)with h' | h'
          · exact h'
          · rw[Nat.ble_eq_true_of_le h']at hfit;cases hfit
        obtain⟨old',o1,o2,o3⟩:=B2 h hr hold
        have hz:Cj P e size=true:=by unfold CB at hs;exact(AA hs).1
        obtain⟨newCap,rest,g1,g2,g3⟩:=L7 (ty:=ty) (oldA:=old) h hu hsize hby hsz hb hb2 hsok hfit hz (old:=old') (base:=some ⟨rb.b,rb.off+o,none⟩) (fun w1 hw1=>o3 w1 hw1)
        obtain⟨ρ',f1,f2,f3⟩:=Gl (h.drawn (w.drawn+1)) hf hs (cs:=old'.toArray++new) (rest:=rest) (by rw[Array.toList_append];exact o1.append hnew) (by simp[hns,o2,tj]) (by omega) g1 g2
        exact⟨_,_,ρ',g3,f1,f2,(Fr.drawn' (w.drawn+1)).trans f3⟩
    ·
      obtain⟨hsz0,hcases⟩:=hopen rfl
      simp only[tH]at hs
      obtain⟨r,hrow,hs⟩:=hs
      have hok:BF ρ w r rb:=h.obj i _ rb (Ap hrow) hr
      unfold Iq at hs
      obtain⟨hgs,hsC⟩:=AA hs
      clear hs
      have hs:=hsC
      clear hsC
      have hgs:=Ae hgs
      have hrs:rb.sz=size:=by rw[← hok.sz];exact hgs.symm
      rw[hrs]at hcases hsz0
      cases hfit:Nat.ble (o+(len+src.1) * size) r.n with
      | true =>
        rw[hfit]at hs
        simp only[cond_true,tH]at hs
        obtain⟨s',hst,hs⟩:=hs
        injection hs with hs
        injection hs with hs1 hs2
        subst hs1;subst hs2
        have hfit:o+(len+src.1) * size≤r.n:=by simpa[tK]using hfit
        have hfit2:o+(len+src.1) * size≤rb.N:=tN hfit hok.le
        obtain⟨w1,k1,k2,k3⟩:=E4 h hr hst hnew
        rcases hcases with⟨rfl,c1,c2⟩ | ⟨rfl,rfl,c1,c2⟩
        · have hle:len+src.1≤c:=by
            rcases tL c (len+src.1)with h' | h'
            · have:(c+1) * size≤(len+src.1) * size:=td _ h'
              omega
            · exact h'
          have:=Cq (w:=w) (w1:=w1) (ty:=ty) (base:=some ⟨rb.b,rb.off+o,none⟩) (sLen:=len) (sCap:=c) hu hsize hby hsz hb hsok hle (by simp only[By];rw[show rb.off+o+len * size=rb.off+(o+len * size)from by omega];exact k1)
          exact⟨_,w1,ρ,this,.sliceOpen (k3.le _ _ hr) (by rw[hrs];exact hsz0) hle (by rw[hrs];exact c1) (by rw[hrs];exact c2),k2,k3⟩
        · have hk0:src.1=0:=by
            rcases uL src.1 with h' | h'
            · exact h'
            · have:1 * size≤(0+src.1) * size:=td _ (by omega)
              omega
          have hnew0:new.toList=[]:=by
            have:new.size=0:=by rw[hns,hk0];simp
            simpa using this
          have hs20:src.2=[]:=by
            have:src.2.length=0:=by rw[hsrclen,hk0];simp
            simpa using this
          have hst0:s'=s:=by rw[hs20]at hst;simp[Bi]at hst;exact hst.symm
          subst hst0
          have:=Cq (w:=w) (w1:=w) (ty:=ty) (base:=some ad) (sLen:=0) (sCap:=0) hu hsize hby hsz hb hsok (by omega) (by simp only[hnew0];rfl)
          rw[hk0]at this ⊢
          exact⟨_,w,ρ,this,.sliceEnd hr (by rw[hrs];exact hsz0) c1 (by rw[hrs];exact c2),h,Fr.refl _ _ _⟩
      | false =>
        rw[hfit]at hs
        simp only[cond_false,tH]at hs
        obtain⟨old,hold,hs⟩:=hs
        have hgt:r.n<o+(len+src.1) * size:=by
          rcases tL r.n (o+(len+src.1) * size)with h' | h'
          · exact h'
          · rw[Nat.ble_eq_true_of_le h']at hfit;cases hfit
        obtain⟨old',o1,o2,o3⟩:=B2 h hr hold
        obtain⟨hle1,htake⟩:=D5 hrow hold
        have hold':∀w1:World,w1.heap=w.heap→(Builtin.firstCells size len (.slice (some ad) len c)).run P w1=.ok old'.toArray w1:=by
          intro w1 hw1
          rcases hcases with⟨rfl,_,_⟩ | ⟨rfl,rfl,_,_⟩
          · exact o3 w1 hw1
          · have:old'=[]:=by simpa using o2
            subst this
            simp[Builtin.firstCells,FH]
        have hcsrel:AJ ρ (old++src.2) (old'.toArray++new).toList:=by rw[Array.toList_append];exact o1.append hnew
        have hcssz:(old'.toArray++new).size=(len+src.1) * size:=by simp[hns,o2,tj]
        cases hsp:r.spare with
        | true =>
          rw[hsp]at hs
          simp only[cond_true]at hs
          have hz:Cj P e size=true:=by
            unfold EJ at hs
            have:=(AA hs).1
            simp only[Bool.and_eq_true]at this
            exact this.2
          rcases tL c (len+src.1)with hlt | hge
          · obtain ⟨newCap, rest, g1, g2, g3⟩ := L7      (ty := ty) (oldA := old) h hu hsize hby hsz hb hb2 hsok hlt hz hold'
            obtain⟨ρ',f1,f2,f3⟩:=Ps (h.drawn (w.drawn+1)) hf hs hrow hr hold hcsrel hcssz (by omega) g1 g2
            exact⟨_,_,ρ',g3,f1,f2,(Fr.drawn' (w.drawn+1)).trans f3⟩
          · rcases hcases with ⟨rfl, c1, c2⟩ | ⟨rfl, rfl, c1, c2⟩
            · obtain⟨w1,ρ',k1,k2,k3,k4⟩:=SF h hf hs hrow hr hold hnew hns hall (by omega) hge c1 c2 hgt
              have:=Cq (w:=w) (w1:=w1) (ty:=ty) (base:=some ⟨rb.b,rb.off+o,none⟩) (sLen:=len) (sCap:=c) hu hsize hby hsz hb hsok hge (by simp only[By];exact k1)
              exact⟨_,w1,ρ',this,k2,k3,k4⟩
            · have hk0:src.1=0:=by omega
              rw[hk0]at hgt
              simp at hgt hle1
              omega
        | false =>
          rw[hsp]at hs
          simp only[cond_false]at hs
          have htight:=hok.tight hsp
          have hlt:c<len+src.1:=by
            rcases tL c (len+src.1)with h' | h'
            · exact h'
            · rcases hcases with ⟨rfl, c1, c2⟩ | ⟨rfl, rfl, c1, c2⟩
              · have:(len+src.1) * size≤c * size:=td _ h'
                omega
              · have hk0:src.1=0:=by omega
                rw[hk0]at hgt
                simp at hgt hle1
                omega
          have hz:Cj P e size=true:=by unfold CB at hs;exact(AA hs).1
          obtain⟨newCap,rest,g1,g2,g3⟩:=L7 (ty:=ty) (oldA:=old) h hu hsize hby hsz hb hb2 hsok hlt hz hold'
          obtain⟨ρ',f1,f2,f3⟩:=Gl (h.drawn (w.drawn+1)) hf hs hcsrel hcssz (by omega) g1 g2
          exact⟨_,_,ρ',g3,f1,f2,(Fr.drawn' (w.drawn+1)).trans f3⟩
end
section
variable{P:Program}{ρ ρ1 ρ2:A5}{s s1 s2:AD}{w w1 w2:World}
theorem gv{r:CG}(h:B8 r.mode=true):r.mode≠.ro:=fun e=>by rw[e]at h;cases h
theorem Ih{t:TypeId}{n:Nat}(h:A1 P t=some n):P.cellsOf t=n:=by
 unfold A1 at h
 split at h
 ·injection h with h;subst h;simp[Program.cellsOf, *]
 ·cases h
theorem PL(h:As P ρ s w){i:Nat}{r:CG}{rb:RB}(hrow:rowAt s i=some r)(ho:B8 r.mode=true)(hbs:r.bytes=true)(hr:ρ i=some rb):
  ∃cs,w.heap[rb.b]? = some (.cells cs r.elem (0,0))∧rb.off=0∧r.n≤cs.size:=by
 have hok:BF ρ w r rb:=h.obj i _ rb (Ap hrow) hr
 obtain⟨cs,h1,h2⟩:=hok.own (gv ho)
 have:=hok.le
 exact⟨cs,h1,hok.base hbs,by omega⟩
theorem VY{e:TypeId}{c count n:Nat}(fits:TypeId→Bool)(hf:fits e=true)(hc:P.cellsOf e=c)(h0:c≠0)(hn:n≤count)(d:Nat):Go.rowAt P fits (d+1) e count 0 n=true:=by
 unfold Go.rowAt
 simp[hc,h0,hf,hn]
theorem S5{e:TypeId}{c count n:Nat}(hc:P.cellsOf e=c)(h0:c≠0)(hn:n≤count):liesAt P P.depth e count 0 e n=true:=by
 obtain⟨d,hd⟩:∃d,P.depth=d+1:=⟨_,rfl⟩
 have hs:sameLayout P P.depth e e=true:=by rw[hd];simp[sameLayout]
 have h1:Go.rowAt P (fun t=>sameLayout P P.depth t e) P.depth e count 0 n=true:=by
  have:=VY (P:=P) (fun t=>sameLayout P P.depth t e) hs hc h0 hn d
  rw[← hd]at this
  exact this
 have h2:∀d',liesAt P (d'+1) e count 0 e n=true:=fun d'=>by
  unfold liesAt
  rw[h1,Bool.true_or]
 rw[hd]
 exact h2 d
theorem Nq         (h : As  P ρ s w) {u : TypeId} {x v : AV} {x' : Value} (hs : Ac.seenPtr    P s u x = some v) (hx : AM   ρ x x') :
    v=x∧(∀src dst,P.underlying src=some (.pointer u)→P.underlying dst=some .unsafePointer→(Conv.unsafePointer src dst x').run P w=.ok x' w) ∧
      (∀src dst,P.underlying src=some .unsafePointer→P.underlying dst=some (.pointer u)→(Conv.unsafePointer src dst x').run P w=.ok x' w):=by
  unfold Ac.seenPtr at hs
  split at hs<;>first | (cases hs;done) | skip
  · injection hs with hs;subst hs
    cases hx
    exact⟨rfl,fun src dst h1 h2=>by simp[Conv.unsafePointer,AH h1,AH h2],fun src dst h1 h2=>by simp[Conv.unsafePointer,AH h1,AH h2]⟩
  · rename_i i o
    simp only[tH]at hs
    obtain⟨r,hrow,n,hn,hs⟩:=hs
    obtain⟨hb,hs⟩:=AA hs
    injection hs with hs;subst hs
    simp only[Bool.and_eq_true,tK,Bool.not_eq_true']at hb
    obtain⟨⟨⟨⟨⟨ho,hby⟩,ho0⟩,hu⟩,hle⟩,hn0⟩:=hb
    have ho0:=tM ho0
    have hu:=tM hu
    have hn0:n≠0:=fun e=>by rw[e]at hn0;cases hn0
    subst ho0
    cases hx with
    | ptr hr =>
    rename_i rb
    obtain⟨cs,h1,h2,h3⟩:=PL h hrow ho hby hr
    have hsh:w.shape? rb.b=some (u,cs.size):=by simp[World.shape?,h1,hu]
    rw[h2]
    have hseen:(Conv.seenAt ⟨rb.b,0+0,none⟩).run P w=.ok ⟨rb.b,0,none⟩ w:=by simp[Conv.seenAt,viewAt,shape,Sem.run,hsh]
    refine⟨rfl,fun src dst k1 k2=>?_,fun src dst k1 k2=>?_⟩
    · simp only[Conv.unsafePointer,Sem.run_bind,AH k1,AH k2,Result.andThen_ok,hseen]
      have hci:(cellsIn rb.b).run P w=.ok (some cs.size) w:=by simp[cellsIn,shape,Sem.run,hsh]
      have hlt:¬ cs.size≤0:=by omega
      simp[hci,Ar hn,hn0]
      intro hc;rw[hc]at hlt;exact absurd (tJ 0) hlt
    · have hl:(variablesAt ⟨rb.b,0,none⟩ u 1).run P w=.ok true w:=by
        have:1≤cs.size / P.cellsOf u:=by
          rw[Ih hn]
          exact(Nat.one_le_div_iff (by omega)).2 (by omega)
        have:=S5 (P:=P) (Ih hn) hn0 this
        simp[variablesAt,program,shape,Sem.run,hsh,this]
      simp only[Conv.unsafePointer,Sem.run_bind,AH k1,AH k2,Result.andThen_ok,hseen]
      simp[Ar hn,hn0,hl]
end
section
variable{P:Program}{ρ ρ1 ρ2:A5}{s s1 s2:AD}{w w1 w2:World}
theorem OO{t:TypeId}{x v:AV}{x':Value}{f:Nat}(h:AN P t x f=some v)(hx:AM ρ x x'):
  ∃v',(Instr.fieldAt t x' f).run P w=.ok v' w∧AM ρ v v':=by
 unfold AN at h
 split at h<;>first | (cases h;done) | skip
 rename_i i o
 split at h<;>first | (cases h;done) | skip
 rename_i fs hfs
 simp only[tH]at h
 obtain⟨fd,hfd,n,hn,h⟩:=h
 obtain⟨hz,h⟩:=AA h
 injection h with h;subst h
 have hn0:n≠0:=by intro e;subst e;cases hz
 cases hx with
 | ptr hr =>
  rename_i rb
  refine⟨.pointer (some ⟨rb.b,rb.off+(o+fd.offset),none⟩),?_,.ptr hr⟩
  simp[Instr.fieldAt,AH hfs,hfd,Instr.sureAddr,fieldPlace,Ar hn,hn0,By,tv]
theorem OQ{t:TypeId}{x ix v:AV}{x' ix':Value}(h:AR P t x ix=some v)(hx:AM ρ x x')(hi:AM ρ ix ix'):
  ∃v',(Instr.indexAt t x' ix').run P w=.ok v' w∧AM ρ v v':=by
 unfold AR at h
 simp only[tH]at h
 obtain⟨k,hk,h⟩:=h
 obtain⟨kd,rfl⟩:=NB hk hi
 split at h<;>first | (cases h;done) | skip
 ·split at h<;>first | (cases h;done) | skip
  rename_i i o _ len e he
  simp only[tH]at h
  obtain⟨n,hn,h⟩:=h
  obtain⟨hlt,h⟩:=AA h
  injection h with h;subst h
  have hlt':k<len:=by simpa[tP]using hlt
  cases hx with
  | ptr hr =>
   rename_i rb
   have:(0:Int)≤(k:Int)∧(k:Int)<(len:Int):=by omega
   refine⟨.pointer (some ⟨rb.b,rb.off+(o+k * n),none⟩),?_,.ptr hr⟩
   simp[Instr.indexAt,asIntOf,AH he,Instr.sureAddr,this,Ar hn,By,tv]
   omega
 ·split at h<;>first | (cases h;done) | skip
  rename_i g o _ len e he
  simp only[tH]at h
  obtain⟨n,hn,h⟩:=h
  obtain⟨hlt,h⟩:=AA h
  injection h with h;subst h
  have hlt':k<len:=by simpa[tP]using hlt
  cases hx
  have:(0:Int)≤(k:Int)∧(k:Int)<(len:Int):=by omega
  refine⟨.pointer (some ⟨g,o+k * n,none⟩),?_,.gptr _ _⟩
  simp[Instr.indexAt,asIntOf,AH he,Instr.sureAddr,this,Ar hn,By]
  omega
 ·split at h<;>first | (cases h;done) | skip
  rename_i i o len cap _ e he
  simp only[tH]at h
  obtain⟨n,hn,h⟩:=h
  obtain⟨hlt,h⟩:=AA h
  injection h with h;subst h
  have hlt':k<len:=by simpa[tP]using hlt
  have:(0:Int)≤(k:Int)∧(k:Int)<(len:Int):=by omega
  cases hx with
  | slice hr hl =>
   rename_i c rb
   refine⟨.pointer (some ⟨rb.b,rb.off+(o+k * n),none⟩),?_,.ptr hr⟩
   simp[Instr.indexAt,asIntOf,AH he,Instr.sureAddr,this,Ar hn,By,tv]
   omega
  | sliceOpen hr hs hl h1 h2 =>
   rename_i c rb
   refine⟨.pointer (some ⟨rb.b,rb.off+(o+k * n),none⟩),?_,.ptr hr⟩
   simp[Instr.indexAt,asIntOf,AH he,Instr.sureAddr,this,Ar hn,By,tv]
   omega
  | sliceEnd=>omega
theorem kY      (h : As  P ρ s w) {t ty : TypeId} {x v : AV} {x' : Value} {tys : Array TypeId} (ht : tys[0]? = some t) (hs : Bb   P s t x = some v) (hx : AM   ρ x x') :
    ∃v',(Builtin.len_ tys ty #[x']).run P w=.ok v' w∧AM ρ v v':=by
  unfold Bb at hs
  split at hs<;>first | (cases hs;done) | skip
  · split at hs<;>first | (cases hs;done) | skip
    rename_i hu
    injection hs with hs;subst hs
    cases hx with
    | str he =>
      rename_i b
      subst he
      refine⟨.int .i64 b.size,by simp[Builtin.len_,ht,AH hu,goInt],?_⟩
      have:(Int.ofNat (DO b.data.toList).length)=(b.size:Int):=by rw[F2];rfl
      rw[this]
      exact .int _ _
  · split at hs<;>first | (cases hs;done) | skip
    rename_i hu
    injection hs with hs;subst hs
    cases hx<;>exact⟨_,by simp only[Builtin.len_,ht];simp[AH hu,goInt]<;>rfl,.int _ _⟩
  · split at hs<;>first | (cases hs;done) | skip
    rename_i hu
    injection hs with hs;subst hs
    cases hx
    exact⟨_,by simp only[Builtin.len_,ht];simp[AH hu,goInt]<;>rfl,.int _ _⟩
  · split at hs <;> first | (cases hs; done) | skip
    rename_i i _ k e hu
    split at hs<;>first | (cases hs;done) | skip
    all_goals
      rename_i kt es hg
      injection hs with hs;subst hs
      cases hx with
      | map hr =>
        rename_i rb
        obtain⟨es',clock,hh,_,⟨l,hp,he⟩,_⟩:=(show Gj P ρ w kt es rb from h.obj i _ rb hg hr).ex
        have hlen:es.length=es'.size:=by
          have:=he.length
          have:=hp.length_eq
          simp at this;omega
        refine⟨.int .i64 es'.size,by simp[Builtin.len_,ht,AH hu,goInt,getObj,hh,Sem.run],?_⟩
        rw[hlen]
        exact .int _ _
theorem jP      (h : As  P ρ s w) {t ty : TypeId} {x v : AV} {x' : Value} {tys : Array TypeId} (ht : tys[0]? = some t) (hs : Yj   P s t x = some v) (hx : AM   ρ x x') :
    ∃v',(Builtin.cap_ tys ty #[x']).run P w=.ok v' w∧AM ρ v v':=by
  unfold Yj at hs
  split at hs<;>first | (cases hs;done) | skip
  rename_i a len cap
  split at hs<;>first | (cases hs;done) | skip
  rename_i e hu
  split at hs
  · injection hs with hs;subst hs
    cases hx<;>exact⟨_,by simp only[Builtin.cap_,ht];simp[AH hu,goInt]<;>rfl,.int _ _⟩
  · split at hs<;>first | (cases hs;done) | skip
    rename_i i o
    simp only[tH]at hs
    obtain⟨n,hn,r,hrow,hs⟩:=hs
    obtain⟨hg,hs⟩:=AA hs
    injection hs with hs;subst hs
    simp only[Bool.and_eq_true,Bool.not_eq_true',tK]at hg
    obtain⟨⟨⟨g1,g2⟩,g3⟩,g4⟩:=hg
    have g3:=Ae g3
    have hn0 : 0 < n := by rcases uL                 n with e0 | h'; · subst e0; cases g4
                           · exact h'
    cases hx with
    | sliceOpen hr hs hl h1 h2 =>
      rename_i c rb
      have hok:BF ρ w r rb:=h.obj i _ rb (Ap hrow) hr
      have hsz:rb.sz=n:=by rw[← hok.sz];exact g3.symm
      have hN:rb.N=r.n:=hok.tight g1
      rw[hsz,hN]at h1 h2
      have:(r.n - o) / n=c:=by
        have e1:c * n≤r.n - o:=by omega
        have e2:r.n - o<(c+1) * n:=by omega
        exact Nat.le_antisymm (Nat.lt_succ_iff.1 ((uD hn0).2 e2)) ((Nat.le_div_iff_mul_le hn0).2 e1)
      refine⟨.int .i64 c,by simp[Builtin.cap_,ht,AH hu,goInt],?_⟩
      rw[this]
      exact .int _ _
    | sliceEnd hr hs h1 h2 =>
      rename_i rb ad
      have hok:BF ρ w r rb:=h.obj i _ rb (Ap hrow) hr
      have hsz:rb.sz=n:=by rw[← hok.sz];exact g3.symm
      have hN:rb.N=r.n:=hok.tight g1
      rw[hsz,hN]at h2
      have:(r.n - o) / n=0:=uP (by omega)
      refine⟨.int .i64 (0:Nat),by simp[Builtin.cap_,ht,AH hu,goInt],?_⟩
      rw[this]
      exact .int _ _
theorem HT        {mx : Bool} : ∀ {l : List AV} {v r : AV} {v' : Value} {l' : List Value}, GT     mx v l = some r → AM   ρ v v' → AJ    ρ l l' →
    ∃r',(l'.foldlM (if mx then Builtin.max2 else Builtin.min2) v').run P w=.ok r' w∧AM ρ r r'
  | [],v,r,v',l',h,hv,hl=>by
    cases hl
    have:GT mx v []=some v:=by cases v<;>rfl
    rw[this]at h
    injection h with h;subst h
    exact⟨v',by simp,hv⟩
  | a::l,v,r,v',l',h,hv,hl=>by
    cases hl with
    | cons ha hl =>
      unfold GT at h
      split at h<;>first | (cases h;done) | skip
      · rename_i hq;cases hq
      · rename_i k a k2 b l2 hq
        injection hq with h1 h2
        subst h1;subst h2
        obtain⟨hk,hg⟩:=AA h
        clear h
        have hkk:=CW hk
        clear hk
        subst hkk
        cases hv;cases ha
        cases mx with
        | true =>
          obtain⟨r',e1,e2⟩:=HT hg (.int _ _) hl
          refine⟨r',?_,e2⟩
          simp only[cond_true,Cv]at e1
          simp only[if_true,List.foldlM_cons,Builtin.max2]at e1 ⊢
          simp only[Sem.run_bind,Sem.run_pure,Result.andThen_ok]
          rw[← e1]
          by_cases hc:a<b
          · rw[if_pos (show b > a from hc)];simp[hc]
          · rw[if_neg (show ¬ b > a from hc)];simp[hc]
        | false =>
          obtain⟨r',e1,e2⟩:=HT hg (.int _ _) hl
          refine⟨r',?_,e2⟩
          simp only[cond_false,Cv]at e1
          simp only[if_neg Bool.false_ne_true,List.foldlM_cons,Builtin.min2]at e1 ⊢
          simp only[Sem.run_bind,Sem.run_pure,Result.andThen_ok]
          rw[← e1]
          by_cases hc:b<a
          · rw[if_pos hc];simp[hc]
          · rw[if_neg hc];simp[hc]
theorem MT         : ∀ {l : List AV} {l' : List Value} {b : List Nat} {acc : ByteArray}, Ac.bytesOf    l = some b → AJ    ρ l l' →
    ∃r:ByteArray,((forIn (m:=Sem) l' acc fun c (s:ByteArray)=>match c with
      | .int .u8 n=>pure (ForInStep.yield (s.push (UInt8.ofNat n.toNat)))
      | _=>do
        stuck "bytesToString: byte expected"
        pure (ForInStep.yield s))).run P w=.ok r w∧DO r.data.toList=DO acc.data.toList++b
  | [],l',b,acc,h,hl=>by
    cases hl
    simp[Ac.bytesOf]at h
    subst h
    exact⟨acc,by simp,by simp⟩
  | a::l,l',b,acc,h,hl=>by
    cases hl with
    | cons ha hl =>
      unfold Ac.bytesOf at h
      split at h<;>first | (cases h;done) | skip
      · rename_i hq;cases hq
      · rename_i n l2 hq
        injection hq with h1 h2
        subst h1;subst h2
        obtain⟨hb,hg⟩:=AA h
        clear h
        simp only[tH]at hg
        obtain⟨b',hb',hg⟩:=hg
        injection hg with hg;subst hg
        cases ha
        obtain⟨r,e1,e2⟩:=MT (acc:=acc.push (UInt8.ofNat n)) hb' hl
        refine⟨r,?_,?_⟩
        · rw[← e1]
          simp
        · rw[e2]
          have:n<256:=by simpa[tP]using hb
          simp[ByteArray.push,tr this]
theorem en       (h : As  P ρ s w) {src dst : TypeId} {x v : AV} {x' : Value} (hs : Ac    P s src dst x = some v) (hx : AM   ρ x x') :
    ∃v',(convert src dst x').run P w=.ok v' w∧AM ρ v v':=by
  unfold Ac at hs
  split at hs<;>first | (cases hs;done) | skip
  · rename_i d k kd n hd hk
    injection hs with hs;subst hs
    cases hx
    exact⟨.int k (k.wrap n),by simp[convert,AH hd,AH hk,Conv.intToInt],by rw[HI];exact .int _ _⟩
  · rename_i d l hd hk
    injection hs with hs;subst hs
    cases hx with
    | str he=>exact⟨_,by simp[convert,AH hd,AH hk]<;>rfl,.str he⟩
  · rename_i e a len cap hd hk
    split at hs<;>first | (cases hs;done) | skip
    rename_i he
    split at hs
    · injection hs with hs;subst hs
      cases hx<;>exact⟨.string .empty,by simp[convert,AH hd,AH hk,AH he,Conv.bytesToString],.str rfl⟩
    · rename_i i o
      simp only[tH]at hs
      obtain⟨l,hl,b,hb,hs⟩:=hs
      injection hs with hs;subst hs
      obtain⟨rb,ad,c,hr,hv,hlc,hexact,hopen⟩:=CY hx
      subst hv
      obtain⟨l',e1,e2,e3⟩:=B2 h hr hl
      have e3':(loadCells ad len).run P w=.ok l'.toArray w:=by
        cases cap with
        | some c0=>obtain⟨_,rfl⟩:=hexact c0 rfl;exact e3 w rfl
        | none =>
          rcases(hopen rfl).2 with⟨rfl,_⟩ | ⟨rfl,_⟩
          · exact e3 w rfl
          · have:l'=[]:=by simpa using e2
            subst this
            exact FH ad w
      obtain⟨r,f1,f2⟩:=MT (P:=P) (w:=w) (acc:=.empty) hb e1
      refine⟨.string r,?_,.str (by simpa using f2)⟩
      simp only[convert,Sem.run_bind,AH hd,AH hk,AH he,Result.andThen_ok,Conv.bytesToString,e3']
      simp only[List.forIn_toArray]
      exact(congrArg (fun(r:Result ByteArray)=>r.andThen fun a w'=>Sem.run P (pure (Value.string a)) w') f1)
  · rename_i u hsr hds
    obtain⟨rfl,h1,_⟩:=Nq h hs hx
    have:=h1 src dst hsr hds
    refine⟨x',?_,hx⟩
    rw[← this]
    have hp:∃a,x'=.pointer a:=by
      unfold Ac.seenPtr at hs
      split at hs<;>first | (cases hs;done) | (cases hx;exact⟨_,rfl⟩)
    obtain⟨a,rfl⟩:=hp
    simp[convert,AH hsr,AH hds]
  · rename_i u hsr hds
    obtain⟨rfl,_,h1⟩:=Nq h hs hx
    have:=h1 src dst hsr hds
    refine⟨x',?_,hx⟩
    rw[← this]
    have hp:∃a,x'=.pointer a:=by
      unfold Ac.seenPtr at hs
      split at hs<;>first | (cases hs;done) | (cases hx;exact⟨_,rfl⟩)
    obtain⟨a,rfl⟩:=hp
    simp[convert,AH hsr,AH hds]
end
section
variable{P:Program}{ρ ρ1 ρ2:A5}{s s1 s2:AD}{w w1 w2:World}
theorem Eu{x:AV}{x':Value}{y i:Nat}(h:BY x y=some i)(hx:AM ρ x x')(code:BoundsCode):
  i≤y∧(Instr.sliceBound x' y code).run P w=.ok i w:=by
 unfold BY at h
 simp only[tH]at h
 obtain⟨k,hk,h⟩:=h
 obtain⟨hle,h⟩:=AA h
 injection h with h;subst h
 obtain⟨kd,rfl⟩:=NB hk hx
 have hle:k≤y:=by simpa[tK]using hle
 refine⟨hle,?_⟩
 have:(0:Int)≤(k:Int)∧(k:Int)≤(y:Int):=by omega
 simp[Instr.sliceBound,asIntOf,this]
inductive MJ (ρ:A5):Option AV→Option Value→Prop
 | none:MJ ρ none none
 | some {v:AV} {v':Value} (h:AM ρ v v'):MJ ρ (some v) (some v')
def sM(cap m:Nat):Option AV→Prop
 | some v=>BY v cap=some m
 | none=>m=cap
def sL(mx:Option AV)(len m h:Nat):Option AV→Prop
 | some v=>BY v m=some h
 | none=>h=len∧mx=none
def qF(h l:Nat):Option AV→Prop
 | some v=>BY v h=some l
 | none=>l=0
theorem D2{lo hi mx:Option AV}{lo' hi' mx':Option Value}(hlo:MJ ρ lo lo')(hhi:MJ ρ hi hi')(hmx:MJ ρ mx mx')(isS:Bool){len cap m h l:Nat}
  (h1:sM cap m mx) (h2:sL mx len m h hi) (h3:qF h l lo):
  (Instr.sliceBounds isS len cap lo' hi' mx').run P w=.ok (l,h,m) w:=by
 unfold Instr.sliceBounds
 cases hmx with
 | none =>
  have h1:m=cap:=h1
  subst h1
  cases hhi with
  | none =>
   obtain⟨rfl,_⟩:=h2
   cases hlo with
   | none=>have h3:l=0:=h3;subst h3;simp
   | some hv=>obtain⟨_,e⟩:=Eu (P:=P) (w:=w) h3 hv .sliceB;simp[e]
  | some hv =>
   obtain⟨_,e⟩:=Eu (P:=P) (w:=w) h2 hv (if isS then .sliceAcap else .sliceAlen)
   cases hlo with
   | none=>have h3:l=0:=h3;subst h3;simp[e]
   | some hv2=>obtain⟨_,e2⟩:=Eu (P:=P) (w:=w) h3 hv2 .sliceB;simp[e,e2]
 | some hm =>
  obtain⟨_,e0⟩:=Eu (P:=P) (w:=w) h1 hm (if isS then .slice3Acap else .slice3Alen)
  cases hhi with
  | none=>exact absurd h2.2 (by simp)
  | some hv =>
   obtain⟨_,e⟩:=Eu (P:=P) (w:=w) h2 hv .slice3B
   cases hlo with
   | none=>have h3:l=0:=h3;subst h3;simp[e0,e]
   | some hv2=>obtain⟨_,e2⟩:=Eu (P:=P) (w:=w) h3 hv2 .slice3C;simp[e0,e,e2]
theorem Kt{x:AV}{y z i:Nat}(h:BY x y=some i)(hle:y≤z):BY x z=some i:=by
 unfold BY at h ⊢
 simp only[tH]at h ⊢
 obtain⟨k,hk,h⟩:=h
 obtain⟨h1,h2⟩:=AA h
 refine⟨k,hk,?_⟩
 have:k≤y:=by simpa[tK]using h1
 have:Nat.ble k z=true:=by simp[tK];omega
 simp only[AF,this,cond_true]
 exact h2
theorem Cd{x:AV}{y i:Nat}(h:BY x y=some i):i≤y:=by
 unfold BY at h
 simp only[tH]at h
 obtain⟨k,hk,h⟩:=h
 obtain⟨h1,h2⟩:=AA h
 injection h2 with h2;subst h2
 simpa[tK]using h1
theorem JX(s:ByteArray)(o h:Nat):DO (s.extract o h).data.toList=((DO s.data.toList).drop o).take (h - o):=by
 simp[DO,List.map_take,List.map_drop,Array.toList_extract]
theorem Zq{lo hi mx:Option AV}{lo' hi' mx':Option Value}(hlo:MJ ρ lo lo')(hhi:MJ ρ hi hi')(hmx:MJ ρ mx mx'){len i o:Nat}{e:TypeId}{v:AV}{rb:RB}(hr:ρ i=some rb)
    (hs:Bl.arr P lo hi mx len e i o=some v):
    ∃l h m n,(Instr.sliceBounds false len len lo' hi' mx').run P w=.ok (l,h,m) w∧A1 P e=some n ∧
      AM ρ v (.slice (some (if m=l then ⟨rb.b,rb.off+o,none⟩else (⟨rb.b,rb.off+o,none⟩:Addr).add (l * n))) (h - l) (m - l)):=by
  unfold Bl.arr at hs
  simp only[tH]at hs
  obtain⟨n,hn,m,hm,h,hh,l,hl,hs⟩:=hs
  injection hs with hs;subst hs
  have hmh:h≤m:=by
    cases hi with
    | some v=>exact Cd hh
    | none =>
      cases mx with
      | none=>simp at hm hh;omega
      | some _=>simp at hh
  have hlh:l≤h:=by
    cases lo with
    | some v=>exact Cd hl
    | none=>simp at hl;omega
  refine⟨l,h,m,n,D2 hlo hhi hmx false ?_ ?_ ?_,hn,?_⟩
  · cases mx with
    | some v=>exact hm
    | none=>simp at hm;show m=len;omega
  · cases hi with
    | some v=>exact hh
    | none =>
      cases mx with
      | none=>simp at hh;exact⟨by omega,rfl⟩
      | some _=>simp at hh
  · cases lo with
    | some v=>exact hl
    | none=>simp at hl;show l=0;omega
  · by_cases e1 : m = l
    · rw[if_pos e1,show Nat.beq m l=true from by subst e1;simp]
      exact .slice hr (by omega)
    · rw[if_neg e1,show Nat.beq m l=false from by cases hb:Nat.beq m l with | true=>exact absurd (Ae hb) e1 | false=>rfl,By,cond_false,tv]
      exact .slice hr (by omega)
theorem E3        (hI : As  P ρ s w) {t : TypeId} {x v : AV} {x' : Value} {lo hi mx : Option AV} {lo' hi' mx' : Option Value} (hs : Bl     P s t x lo hi mx = some v) (hx : AM   ρ x x')
    (hlo:MJ ρ lo lo') (hhi:MJ ρ hi hi') (hmx:MJ ρ mx mx'):
    ∃v',(Instr.sliceAt t x' lo' hi' mx').run P w=.ok v' w∧AM ρ v v':=by
  unfold Bl at hs
  split at hs<;>first | (cases hs;done) | skip
  ·
    rename_i l
    simp only[tH]at hs
    obtain⟨_,h0,h,hh,o,ho,_,hu,hs⟩:=hs
    injection hs with hs;subst hs
    split at hu<;>first | (cases hu;done) | skip
    rename_i hu'
    cases hmx with
    | some _=>cases h0
    | none =>
      cases hx with
      | str he =>
        rename_i b
        subst he
        have hlen:(DO b.data.toList).length=b.size:=F2 b
        have hb:(Instr.sliceBounds false b.size b.size lo' hi' none).run P w=.ok (o,h,b.size) w:=by
          refine D2 hlo hhi .none false rfl ?_ ?_
          · cases hi with
            | some v=>simp only at hh;rw[hlen]at hh;exact hh
            | none=>simp only[Option.some.injEq]at hh;rw[hlen]at hh;exact⟨hh.symm,rfl⟩
          · cases lo with
            | some v=>exact ho
            | none=>simp only[Option.some.injEq]at ho;exact ho.symm
        refine⟨.string (b.extract o h),?_,.str (JX b o h)⟩
        simp[Instr.sliceAt,Instr.slice,AH hu',hb]
  ·
    rename_i a len cap
    split at hs<;>first | (cases hs;done) | skip
    rename_i e hu
    simp only[tH]at hs
    obtain⟨n,hn,far,hfar,m,hm,h,hh,l,hl,hs⟩:=hs
    injection hs with hs;subst hs
    have key:∀ (a':Option Addr) (c M:Nat),x'=.slice a' len c→(Instr.sliceBounds true len c lo' hi' mx').run P w=.ok (l,h,M) w →
        (Instr.sliceAt t x' lo' hi' mx').run P w=.ok (.slice (if M=l then a' else a'.map (·.add (l * n))) (h - l) (M - l)) w:=by
      intro a' c M hx1 hb
      subst hx1
      simp[Instr.sliceAt,Instr.slice,AH hu,hb,Ar hn]
    have hlh:l≤h:=by
      cases lo with
      | some v=>exact Cd hl
      | none=>simp at hl;omega
    have hl':qF h l lo:=by
      cases lo with
      | some v=>exact hl
      | none=>simp at hl;show l=0;omega
    cases a with
    | none =>
      cases hx
      cases mx with
      | none =>
        simp only[Option.some.injEq]at hm hfar
        subst hm
        have hh0:h≤0:=by
          cases hi with
          | some v=>exact Cd hh
          | none=>simp at hh;omega
        have hb:(Instr.sliceBounds true 0 0 lo' hi' mx').run P w=.ok (l,h,0) w:=by
          refine D2 hlo hhi hmx true rfl ?_ hl'
          cases hi with
          | some v=>exact hh
          | none=>simp at hh;exact⟨by omega,rfl⟩
        refine⟨_,key none 0 0 rfl hb,?_⟩
        have e1:h - l=0:=by omega
        simp only[e1,Option.map_none,Nat.zero_sub,ite_self]
        exact .sliceNil
      | some mv =>
        simp only[Option.some.injEq]at hfar
        subst hfar
        simp only[tH]at hm
        obtain⟨c,hc,hm⟩:=hm
        obtain⟨_,hm⟩:=AA hm
        injection hm with hm;subst hm
        have hc0:c≤0:=Cd hc
        have hc0:c=0:=by omega
        subst hc0
        have hh0:h≤0:=by
          cases hi with
          | some v=>exact Cd hh
          | none=>simp at hh
        have hb:(Instr.sliceBounds true 0 0 lo' hi' mx').run P w=.ok (l,h,0) w:=by
          refine D2 hlo hhi hmx true hc ?_ hl'
          cases hi with
          | some v=>exact hh
          | none=>simp at hh
        refine⟨_,key none 0 0 rfl hb,?_⟩
        have e1:h - l=0:=by omega
        simp only[e1,Option.map_none,Nat.zero_sub,ite_self]
        exact .sliceNil
    | some io =>
      obtain⟨i,o⟩:=io
      obtain⟨rb,ad,c,hr,hv,hlc,hexact,hopen⟩:=CY hx
      have hfc:far≤c∧(cap=none→ad=⟨rb.b,rb.off+o,none⟩∨far=0)∧(cap=none→rb.sz=n):=by
        cases cap with
        | some c0 =>
          obtain⟨rfl,_⟩:=hexact c0 rfl
          simp only[Option.some.injEq]at hfar
          exact⟨by omega,(fun q=>by cases q),fun q=>by cases q⟩
        | none =>
          simp only[tH]at hfar
          obtain⟨r,hrow,hfar⟩:=hfar
          obtain⟨hg,hfar⟩:=AA hfar
          injection hfar with hfar
          simp only[Bool.and_eq_true,Bool.not_eq_true',tK]at hg
          obtain⟨⟨g1,g2⟩,g3⟩:=hg
          have g2:=Ae g2
          have hn0:0<n:=by
            rcases uL n with e0 | h'
            · subst e0;cases g3
            · exact h'
          have hok:BF ρ w r rb:=hI.obj i _ rb (Ap hrow) hr
          have hsz:rb.sz=n:=by rw[← hok.sz];exact g2.symm
          have hle:=hok.le
          obtain⟨_,hc⟩:=hopen rfl
          rw[hsz]at hc
          rcases hc with⟨e1,c1,c2⟩ | ⟨e1,e2,c1,c2⟩
          · refine ⟨?_, fun _ => .inl e1, fun _ => hsz⟩
            rw[← hfar]
            exact Nat.lt_succ_iff.1 ((uD hn0).2 (by rw[Nat.succ_eq_add_one];omega))
          · have:far=0:=by rw[← hfar];exact uP (by omega)
            exact⟨by omega,fun _=>.inr this,fun _=>hsz⟩
      obtain⟨hfc,hfa,hsn⟩:=hfc
      subst hv
      cases mx with
      | some mv =>
        simp only[tH]at hm
        obtain⟨c1,hc1,hm⟩:=hm
        obtain⟨hg,hm⟩:=AA hm
        injection hm with hm;subst hm
        have had:ad=⟨rb.b,rb.off+o,none⟩:=by
          cases cap with
          | some c0=>exact(hexact c0 rfl).2
          | none =>
            rcases hfa rfl with h' | h'
            · exact h'
            · simp[tP]at hg
              omega
        have hh1:h≤c1:=by
          cases hi with
          | some v=>exact Cd hh
          | none=>simp at hh
        have hb:(Instr.sliceBounds true len c lo' hi' mx').run P w=.ok (l,h,c1) w:=by
          refine D2 hlo hhi hmx true (Kt hc1 hfc) ?_ hl'
          cases hi with
          | some v=>exact hh
          | none=>simp at hh
        refine⟨_,key _ c c1 rfl hb,?_⟩
        subst had
        by_cases e1:c1=l
        · rw[if_pos e1]
          simp only[show Nat.beq c1 l=true from by subst e1;simp,cond_true]
          exact .slice hr (by omega)
        · rw[if_neg e1]
          simp only[show Nat.beq c1 l=false from by cases hb:Nat.beq c1 l with | true=>exact absurd (Ae hb) e1 | false=>rfl,By,cond_false,tv,uA]
          exact .slice hr (by omega)
      | none =>
        simp only[Option.some.injEq]at hm
        subst hm
        cases cap with
        | some c0 =>
          obtain⟨rfl,had⟩:=hexact c0 rfl
          have hh1:h≤c:=by
            cases hi with
            | some v=>exact Cd hh
            | none=>simp at hh;omega
          have hb:(Instr.sliceBounds true len c lo' hi' mx').run P w=.ok (l,h,c) w:=by
            refine D2 hlo hhi hmx true rfl ?_ hl'
            cases hi with
            | some v=>exact hh
            | none=>simp at hh;exact⟨by omega,rfl⟩
          refine⟨_,key _ c c rfl hb,?_⟩
          subst had
          by_cases e1:c=l
          · rw[if_pos e1]
            simp only[show Nat.beq c l=true from by subst e1;simp,cond_true]
            exact .slice hr (by omega)
          · rw[if_neg e1]
            simp only[show Nat.beq c l=false from by cases hb:Nat.beq c l with | true=>exact absurd (Ae hb) e1 | false=>rfl,By,cond_false,tv,uA]
            exact .slice hr (by omega)
        | none =>
          obtain⟨hs0,hc⟩:=hopen rfl
          have hsn:=hsn rfl
          have hh1:h≤c:=by
            cases hi with
            | some v=>exact tN (Cd hh) hfc
            | none=>simp at hh;omega
          have hb:(Instr.sliceBounds true len c lo' hi' mx').run P w=.ok (l,h,c) w:=by
            refine D2 hlo hhi hmx true rfl ?_ hl'
            cases hi with
            | some v=>exact Kt hh hfc
            | none=>simp at hh;exact⟨by omega,rfl⟩
          refine⟨_,key _ c c rfl hb,?_⟩
          rw[hsn]at hc hs0
          simp only
          rcases hc with⟨rfl,c1,c2⟩ | ⟨rfl,rfl,c1,c2⟩
          · by_cases e1 : c = l
            · subst e1
              rw[if_pos rfl,show h - c=0 from by omega,Nat.sub_self]
              rw[tj,Nat.one_mul]at c2
              exact .sliceEnd hr (by omega) (by omega) (by rw[hsn];omega)
            · rw[if_neg e1]
              simp only[uA,By,tv]
              obtain⟨d,hd⟩:∃d,c=l+d:=⟨c - l,by omega⟩
              subst hd
              rw[show l+d - l=d from by omega]
              rw[tj]at c1
              rw[show(l+d+1) * n=l * n+(d+1) * n from by rw[← tj,tv]]at c2
              exact .sliceOpen hr (by omega) (by omega) (by rw[hsn];omega) (by rw[hsn];omega)
          · have:l=0:=by omega
            subst this
            have:h=0:=by omega
            subst this
            simp only[if_pos,Nat.sub_self,Nat.zero_mul,tZ]
            exact .sliceEnd hr (by omega) c1 (by rw[hsn];omega)
  ·
    rename_i i o
    cases hx with
    | ptr hr =>
      rename_i rb
      split at hs<;>first | (cases hs;done) | skip
      · rename_i len e hu
        obtain⟨l,h,m,n,e1,e2,e3⟩:=Zq (P:=P) (w:=w) hlo hhi hmx hr hs
        exact⟨_,by simp only[Instr.sliceAt,Sem.run_bind,AH hu,Result.andThen_ok,Instr.sureAddr,Sem.run_pure,e1,Ar e2],e3⟩
      · rename_i u hu
        split at hs<;>first | (cases hs;done) | skip
        rename_i len e hu2
        obtain⟨l,h,m,n,e1,e2,e3⟩:=Zq (P:=P) (w:=w) hlo hhi hmx hr hs
        exact⟨_,by simp only[Instr.sliceAt,Instr.slice,Sem.run_bind,AH hu,AH hu2,Result.andThen_ok,asAddr,Sem.run_pure,e1,Ar e2],e3⟩
end
section
variable{P:Program}{ρ ρ1 ρ2:A5}{s s1 s2:AD}{w w1 w2:World}
theorem OP(h:As P ρ s w){i o n size len:Nat}{cap:Option Nat}{x':Value}{l:List AV}(hx:AM ρ (.slice (some (i,o)) len cap) x')(hn:n≤len)(hl:BG s i o (n * size)=some l):
  ∃l':List Value,AJ ρ l l'∧l'.length=n * size∧∀w1:World,w1.heap=w.heap→(Builtin.firstCells size n x').run P w1=.ok l'.toArray w1:=by
 obtain⟨rb,ad,c,hr,hv,hlc,hexact,hopen⟩:=CY hx
 subst hv
 obtain⟨l',e1,e2,e3⟩:=B2 h hr hl
 refine⟨l',e1,e2,fun w1 hw1=>?_⟩
 cases cap with
 | some c0=>obtain⟨_,rfl⟩:=hexact c0 rfl;exact e3 w1 hw1
 | none =>
  rcases(hopen rfl).2 with⟨rfl,_⟩ | ⟨rfl,_⟩
  ·exact e3 w1 hw1
  ·have h0:n=0:=by omega
   subst h0
   have:l'=[]:=by simpa using e2
   subst this
   simp[Builtin.firstCells,FH]
theorem J3(h:As P ρ s w){i o len size n:Nat}{cap:Option Nat}{ad:Addr}{c:Nat}{vs:List AV}{vs':List Value}(hx:AM ρ (.slice (some (i,o)) len cap) (.slice (some ad) len c))
  (hv:AJ ρ vs vs') (hlen:len=0→vs=[]) (hs:Bi s i o vs=some s1):∃w1,(storeCells ad vs').run P w=.ok () w1∧As P ρ s1 w1∧Fr ρ s w ρ s1 w1:=by
 obtain⟨rb,ad0,c0,hr,hv0,hlc,hexact,hopen⟩:=CY hx
 injection hv0 with q1 q2 q3
 injection q1 with q1
 subst q1;subst q3
 have exq:ad=⟨rb.b,rb.off+o,none⟩→∃w1,(storeCells ad vs').run P w=.ok () w1∧As P ρ s1 w1∧Fr ρ s w ρ s1 w1:=by
  intro e;subst e;exact E4 h hr hs hv
 cases cap with
 | some c0=>exact exq (hexact c0 rfl).2
 | none =>
  rcases(hopen rfl).2 with⟨e,_⟩ | ⟨e,_⟩
  ·exact exq e
  ·have:=hlen e
   subst this
   cases hv
   simp[Bi]at hs
   subst hs
   exact⟨w,rfl,h,Fr.refl _ _ _⟩
theorem eq       (h : As  P ρ s w) {tys : Array TypeId} {ty : TypeId} {args : List AV} {v : AV} {args' : Array Value} (hs : ep    P s tys.toList args = some (v, s1)) (ha : AJ    ρ args args'.toList) :
    Vw P ρ s w (Builtin.copy_ tys ty args') v s1:=by
  obtain⟨tyl⟩:=tys
  obtain⟨argl⟩:=args'
  simp only at hs ha
  unfold ep at hs
  split at hs<;>first | (cases hs;done) | skip
  rename_i dt tl a dl cap x
  cases ha with
  | cons ha hb =>
  rename_i a' l1
  cases hb with
  | cons hx hnil =>
  rename_i x' l2
  cases hnil
  split at hs<;>first | (cases hs;done) | skip
  rename_i e hu
  simp only[tH]at hs
  obtain⟨size,hsize,sl,hsl,cells,hcells,s',hst,hs⟩:=hs
  injection hs with hs
  injection hs with hs1 hs2
  subst hs1;subst hs2
  have hmin : (bif Nat.ble sl dl then sl else dl) = Nat.min sl dl := by
    cases hb:Nat.ble sl dl with
    | true => have : sl ≤ dl := by simpa [tK]         using hb
              simp only[cond_true];exact(ua this).symm
    | false => have : dl ≤ sl := by
                 rcases Nat.le_total sl dl with h' | h'
                 · rw[Nat.ble_eq_true_of_le h']at hb;cases hb
                 · exact h'
               simp only[cond_false];exact(Nat.min_eq_right this).symm
  rw[hmin]at hcells ⊢
  have hlen:(Builtin.lenOf x').run P w=.ok sl w:=by
    split at hsl<;>first | (cases hsl;done) | skip
    · injection hsl with hsl;subst hsl
      cases hx<;>rfl
    · injection hsl with hsl;subst hsl
      cases hx with
      | str he=>subst he;rw[F2];rfl
  have hsrc:∃l':List Value,AJ ρ cells l'∧(Builtin.firstCells size (Nat.min sl dl) x').run P w=.ok l'.toArray w∧(Nat.min sl dl=0→cells=[]):=by
    split at hcells<;>first | (cases hcells;done) | skip
    · injection hcells with hcells;subst hcells
      cases hx
      exact⟨[],.nil,rfl,fun _=>rfl⟩
    · simp only [Option.some.injEq] at hsl
      subst hsl
      obtain⟨l',e1,e2,e3⟩:=OP h hx (Nat.min_le_left _ _) hcells
      refine⟨l',e1,e3 w rfl,fun h0=>?_⟩
      have:=e1.length
      rw[e2,show min _ dl=0 from h0,Nat.zero_mul]at this
      exact uQ this
    · rename_i l
      obtain⟨hg,hcells⟩:=AA hcells
      injection hcells with hcells;subst hcells
      cases hx with
      | str he =>
        rename_i b
        subst he
        refine⟨((b.extract 0 (Nat.min sl dl)).data.map fun b=>Value.int .u8 b.toNat).toList,?_,by simp only[Builtin.firstCells,Array.toArray_toList,Sem.run_pure],fun h0=>by rw[h0];rfl⟩
        have hk:∀l:List UInt8,AJ ρ ((DO l).map fun b=>AV.int .u8 (.ofNat b)) (l.map fun b=>Value.int .u8 b.toNat):=by
          intro l
          induction l with
          | nil=>exact .nil
          | cons a l ih=>exact .cons (.int _ _) ih
        have:=hk (b.extract 0 (Nat.min sl dl)).data.toList
        rw[JX]at this
        simpa using this
  obtain⟨l',e1,e2,e3⟩:=hsrc
  have hrun:∀ (base:Option Addr) (c:Nat),a'=.slice base dl c→∀w1,(match base with | some ad=>storeCells ad l' | none=>pure ()).run P w=.ok () w1 →
      (Builtin.copy_ ⟨dt::tl⟩ ty ⟨[a',x']⟩).run P w=.ok (.int .i64 (Nat.min sl dl:Nat)) w1:=by
    intro base c hb w1 hw1
    subst hb
    cases base with
    | none =>
      simp only[Sem.run_pure]at hw1
      injection hw1 with _ hw1
      subst hw1
      simp[Builtin.copy_,AH hu,hlen,Ar hsize,e2,goInt]
    | some ad =>
      simp only at hw1
      simp[Builtin.copy_,AH hu,hlen,Ar hsize,e2,hw1,goInt]
  cases a with
  | none =>
    simp only[Option.some.injEq]at hst
    subst hst
    cases ha
    exact⟨_,_,ρ,hrun none 0 rfl w rfl,.int _ _,h,Fr.refl _ _ _⟩
  | some io =>
    obtain⟨i,o⟩:=io
    simp only at hst
    obtain⟨rb,ad,c,hr,hv,_⟩:=CY ha
    subst hv
    obtain⟨w1,k1,k2,k3⟩:=J3 (size:=0) (n:=0) h ha e1 (fun h0=>e3 (by subst h0;exact Nat.min_zero _)) hst
    exact⟨_,w1,ρ,hrun (some ad) c rfl w1 k1,.int _ _,k2,k3⟩
theorem PQ(ρ:A5){t:TypeId}{z:AV}(h:Dy P t=some z):∃v,(∀w,(zeroValue t).run P w=.ok v w)∧AM ρ z v:=by
  unfold Dy at h
  split at h
  · split at h
    · rename_i i hi _ v hv
      exact⟨v,fun w=>by simp[zeroValue,typeInfo,hi,hv],Br ρ h⟩
    · cases h
  · cases h
theorem Yl(h:As P ρ s w){tys:Array TypeId}{ty:TypeId}{args:List AV}{v:AV}{args':Array Value}(hs:Ul P s tys.toList args=some (v,s1))(ha:AJ ρ args args'.toList):
  Vw P ρ s w (Builtin.clear_ tys ty args') v s1:=by
 obtain⟨tyl⟩:=tys
 obtain⟨argl⟩:=args'
 simp only at hs ha
 unfold Ul at hs
 split at hs<;>first | (cases hs;done) | skip
 rename_i t tl x
 cases ha with
 | cons hx hb =>
 rename_i x' l1
 cases hb
 split at hs<;>first | (cases hs;done) | skip
 ·rename_i e n cap hu
  injection hs with hs
  injection hs with hs1 hs2
  subst hs1;subst hs2
  cases hx
  exact⟨_,w,ρ,by simp[Builtin.clear_,AH hu];rfl,DC ρ,h,Fr.refl _ _ _⟩
 ·have hu:=‹P.underlying t=some (TypeDesc.slice _)›
  injection hs with hs
  injection hs with hs1 hs2
  subst hs1;subst hs2
  cases hx<;>exact⟨_,w,ρ,by simp[Builtin.clear_,AH hu];rfl,DC ρ,h,Fr.refl _ _ _⟩
 ·rename_i e i o n cap hn hu
  simp only[tH]at hs
  obtain⟨z,hz,s',hst,hs⟩:=hs
  injection hs with hs
  injection hs with hs1 hs2
  subst hs1;subst hs2
  obtain⟨z',hz1,hz2⟩:=PQ ρ hz
  obtain⟨rb,ad,c,hr,hv,_⟩:=CY hx
  subst hv
  have hl:=hz2.cells.length
  obtain⟨w1,k1,k2,k3⟩:=J3 (size:=0) (n:=0) h hx (IP hz2 rfl (by simpa using hl.symm) n) (fun h0=>by subst h0;rfl) hst
  refine⟨_,w1,ρ,?_,DC ρ,k2,k3⟩
  cases n with
  | zero=>exact absurd rfl hn
  | succ n=>simp[Builtin.clear_,AH hu,hz1,k1,undef]
theorem NC{q:IntKind}{n:Int}(h:BM q n=true):(Lit.int q n).wf=true:=by
 have e:(Lit.int q n).wf=(decide (q.min≤n) && decide (n≤q.max)):=rfl
 rw[e,Bool.and_eq_true,decide_eq_true_eq,decide_eq_true_eq]
 have m1:IntKind.i8.min=-128:=rfl
 have m2:IntKind.i16.min=-32768:=rfl
 have m3:IntKind.i32.min=-2147483648:=rfl
 have m4:IntKind.i64.min=-9223372036854775808:=rfl
 have m5:IntKind.u8.min=0:=rfl
 have m6:IntKind.u16.min=0:=rfl
 have m7:IntKind.u32.min=0:=rfl
 have m8:IntKind.u64.min=0:=rfl
 have x1:IntKind.i8.max=127:=rfl
 have x2:IntKind.i16.max=32767:=rfl
 have x3:IntKind.i32.max=2147483647:=rfl
 have x4:IntKind.i64.max=9223372036854775807:=rfl
 have x5:IntKind.u8.max=255:=rfl
 have x6:IntKind.u16.max=65535:=rfl
 have x7:IntKind.u32.max=4294967295:=rfl
 have x8:IntKind.u64.max=18446744073709551615:=rfl
 cases n with
 | ofNat m =>
  have hm:Int.ofNat m=(m:Int):=rfl
  rw[hm]
  cases q<;>simp only[BM,tK]at h<;>omega
 | negSucc m =>
  have hm:Int.negSucc m=-((m:Int)+1):=rfl
  rw[hm]
  cases q<;>simp only[BM,tK,Bool.false_eq_true]at h<;>omega
theorem Kb{α β:Type}(f:α→Option β):∀ (l:List α),(∀x∈l,∃y,f x=some y)→∃r,l.mapM f=some r
 | [],_=>⟨[],rfl⟩
 | a::l,h=>by
  obtain⟨y,hy⟩:=h a tS
  obtain⟨r,hr⟩:=Kb f l fun x hx=>h x (tW _ hx)
  exact⟨y::r,by rw[List.mapM_cons,hy,hr];rfl⟩
theorem gI       {N M : Nat} : ∀ (n : Nat) (t : TypeId) (cs : List AV) (cs' : List Value), IF    P n t cs = true → AJ    ρ cs cs' → P.keyTypeAt (n + N) t = true → ∃ l, P.keyLits (n + M) t cs' = some l := by
  intro n
  induction n with
  | zero=>intro t cs cs' h;cases h
  | succ n ih =>
    intro t cs cs' h hr hk
    have hlen:=hr.length
    rw[show n+1+N=(n+N)+1 from by omega]at hk
    rw[show n+1+M=(n+M)+1 from by omega]
    unfold IF at h
    unfold Program.keyTypeAt at hk
    unfold Program.keyLits
    split at h<;>first | (cases h;done) | skip
    · rename_i q hu
      split at h<;>first | (cases h;done) | skip
      rename_i q' m
      simp only[Bool.and_eq_true]at h
      cases hr with
      | cons h1 h2 =>
      cases h2
      cases h1
      rw[hu]
      have:=CW h.1
      subst this
      exact⟨_,by simp only[NC h.2,and_self,if_true]<;>rfl⟩
    · rename_i hu
      split at h<;>first | (cases h;done) | skip
      rename_i l
      cases hr with
      | cons h1 h2 =>
      cases h2
      cases h1 with
      | str hl =>
      rename_i s
      rw[hu]
      have hb:l.length≤1099511627776:=by simpa[tK]using h
      have hs:s.size≤maxLen:=by
        have:s.size=l.length:=by rw[← hl];simp
        rw[this];unfold maxLen;omega
      exact⟨_,by simp only[hs,if_true]<;>rfl⟩
    · rename_i m e hu
      rw[hu]at hk
      simp only[Bool.and_eq_true,uR,List.mem_range]at h
      have h1:cs'.length=P.cellsOf t:=by rw[← hlen];exact tM h.1
      obtain⟨r,hm⟩:=Kb (fun i=>P.keyLits (n+M) e ((cs'.drop (i * P.cellsOf e)).take (P.cellsOf e))) (List.range m) fun i hi=>by
        exact ih e _ _ (h.2 i (List.mem_range.1 hi)) ((hr.drop _).take _) hk
      rw[hu]
      exact⟨_,by simp only[h1,if_true,hm,uA]<;>rfl⟩
    · rename_i fs hu
      rw[hu]at hk
      simp only[Bool.and_eq_true,uR]at h
      have h1:cs'.length=P.cellsOf t:=by rw[← hlen];exact tM h.1
      simp only[Bool.and_eq_true]at hk
      have hf : ∀ f ∈ fs.toList, f.name ≠ "_" ∧ P.keyTypeAt (n + N) f.type = true := by
        have:=hk.1.1
        rw[Array.all_eq_true_iff_forall_mem]at this
        intro f hf
        have:=this f (by simpa using hf)
        simpa using this
      have hn : (fs.all fun f => f.name != "_") = true := by
        rw[Array.all_eq_true_iff_forall_mem]
        intro f hm
        simpa using (hf f (by simpa using hm)).1
      obtain⟨r,hm⟩:=Kb (fun f:Field=>P.keyLits (n+M) f.type ((cs'.drop f.offset).take (P.cellsOf f.type))) fs.toList fun f hm=>by
        exact ih f.type _ _ (h.2 f hm) ((hr.drop _).take _) (hf f hm).2
      rw[hu]
      exact⟨_,by simp only[h1,hn,and_self,if_true,hm,uA]<;>rfl⟩
theorem G3{t:TypeId}(h:FG P t=true):Go.Maps.Keyed P t:=by
 unfold FG at h
 split at h<;>first | (cases h;done) | skip
 ·exact Go.Maps.int_keyed ‹_›
 ·exact Go.Maps.string_keyed ‹_›
 all_goals
  rename_i hu
  simp only[Bool.and_eq_true,tK]at h
  exact Go.Maps.Keyed.of_law (deep_law (m:=P.types.size+1) (by omega) h.1 h.2.1 (by rw[hu]))
theorem EG{t:TypeId}{k:AV}{k':Value}(hok:FG P t=true)(h:E0 P t k=true)(hk:AM ρ k k'):∃l,keyOf P t k'=some l:=by
  unfold FG at hok
  unfold E0 at h
  unfold keyOf
  split at hok<;>first | (cases hok;done) | skip
  · rename_i q hu
    rw[hu]at h ⊢
    simp only[IF,hu]at h
    split at h<;>first | (cases h;done) | skip
    rename_i q' m heq
    simp only[List.cons.injEq,and_true]at heq
    subst heq
    simp only[Bool.and_eq_true]at h
    cases hk
    have:=CW h.1
    subst this
    exact⟨_,by simp only[mapKey,hu,NC h.2,and_self,if_true]<;>rfl⟩
  · rename_i hu
    rw[hu]at h ⊢
    simp only[IF,hu]at h
    split at h<;>first | (cases h;done) | skip
    rename_i l heq
    simp only[List.cons.injEq,and_true]at heq
    subst heq
    cases hk with
    | str hl =>
    rename_i s
    have hb:l.length≤1099511627776:=by simpa[tK]using h
    have hs:s.size≤maxLen:=by
      have:s.size=l.length:=by rw[← hl];simp
      rw[this];unfold maxLen;omega
    exact⟨_,by simp only[mapKey,hu,hs,if_true]<;>rfl⟩
  all_goals
    rename_i hu
    rw[hu]at h ⊢
    simp only[Bool.and_eq_true,tK]at hok
    have hk2:∃cs,k=.agg cs∧IF P 4 t cs=true:=by
      cases k<;>first | exact⟨_,rfl,h⟩ | cases h
    obtain⟨cs,rfl,h⟩:=hk2
    cases hk with
    | agg hr =>
    rename_i cs'
    obtain⟨l,hl⟩:=gI (N:=P.types.size - 3) (M:=P.types.size - 3) 4 t _ _ h hr (by rw[show 4+(P.types.size - 3)=P.types.size+1 from by omega];exact hok.1)
    rw[show 4+(P.types.size - 3)=P.types.size+1 from by omega]at hl
    have hf:(Value.agg cs').formed P t=true:=by
      have hlen:cs.length=cs'.size:=by have:=hr.length;simpa using this
      simp only[IF,hu,Bool.and_eq_true]at h
      have h1:=tM h.1
      have h2:cs'.size=P.cellsOf t:=by omega
      simp[Value.formed,hu,h2]
    have hl':P.keyLits (P.types.size+1) t (Value.agg cs').cells.toList=some l:=hl
    exact⟨_,by simp only[hok.1,hf,Bool.and_self,if_true,hl',uA]<;>rfl⟩
theorem YM{s1 s2:ByteArray}(h:s1.data.toList.map (fun(b:UInt8)=>b.toNat)=s2.data.toList.map (fun(b:UInt8)=>b.toNat)):s1=s2:=by
 have:CM (s1.data.toList.map (fun(b:UInt8)=>b.toNat)) (s2.data.toList.map (fun(b:UInt8)=>b.toNat))=true:=by
  rw[h]
  generalize s2.data.toList.map (fun(b:UInt8)=>b.toNat)=l
  induction l with
  | nil=>rfl
  | cons a l ih=>simp only[CM,Nat.beq_refl,cond_true,ih]
 rw[Ij]at this
 have:=eq_of_beq this
 cases s1;cases s2
 simp only at this
 congr 1
 exact Array.ext' this
theorem PZ        {l1 l2 : List Nat} : CM    l1 l2 = true ↔ l1 = l2 := by
  induction l1 generalizing l2 with
  | nil=>cases l2<;>simp[CM]
  | cons a l ih =>
    cases l2 with
    | nil=>simp[CM]
    | cons b l2 =>
      simp only[CM,List.cons.injEq]
      cases e:Nat.beq a b with
      | true=>have:=tM e;subst this;simp[ih]
      | false =>
        have:a≠b:=fun h=>by rw[h,Nat.beq_refl]at e;cases e
        simp[this]
theorem VG         : ∀ {a b : List AV} {a' b' : List Value} {r : Bool}, LT.keysEq    a b = some r → AJ    ρ a a' → AJ    ρ b b' → (r = true ↔ a' = b') := by
  intro a
  induction a with
  | nil =>
    intro b a' b' r h ha hb
    cases b with
    | nil=>cases ha;cases hb;simp only[LT.keysEq]at h;cases h;simp
    | cons x y=>simp only[LT.keysEq]at h;cases h
  | cons x l ih =>
    intro b a' b' r h ha hb
    cases b with
    | nil=>cases x<;>simp only[LT.keysEq]at h<;>cases h
    | cons y m =>
      cases ha with
      | cons h1 h2 =>
      cases hb with
      | cons g1 g2 =>
      cases x<;>cases y<;>simp only[LT.keysEq]at h<;>first | (cases h;done) | skip
      · obtain⟨q1,q2⟩:=AA h
        simp only[tH]at q2
        obtain⟨r1,q3,q4⟩:=q2
        injection q4 with q4
        have:=CW q1
        subst this
        cases h1;cases g1
        have:=ih q3 h2 g2
        rw[← q4,Bool.and_eq_true,this,GI]
        simp
      · simp only[tH]at h
        obtain⟨r1,q3,q4⟩:=h
        injection q4 with q4
        cases h1 with
        | str e1 =>
        cases g1 with
        | str e2 =>
        have:=ih q3 h2 g2
        rw[← q4,Bool.and_eq_true,this,PZ]
        constructor
        · rintro⟨k1,k2⟩
          subst e1;subst e2
          rw[k2,YM k1]
        · intro k
          injection k with k1 k2
          injection k1 with k1
          subst k1
          exact⟨e1.symm.trans e2,k2⟩
theorem O4{k k0:AV}{k' k0':Value}{b:Bool}(h:LT k k0=some b)(hk:AM ρ k k')(hk0:AM ρ k0 k0'):b=true↔k0'=k':=by
  cases k<;>cases k0<;>simp only[LT]at h<;>first | (cases h;done) | skip
  · obtain⟨q1,q2⟩:=AA h
    injection q2 with q2
    have:=CW q1
    subst this
    cases hk;cases hk0
    rw[← q2,GI,beq_iff_eq]
    exact⟨fun e=>by rw[e],fun e=>by injection e with _ e;exact e.symm⟩
  · injection h with h
    cases hk with
    | str e1 =>
    cases hk0 with
    | str e2 =>
    rw[← h,PZ]
    constructor
    · intro k
      subst e1;subst e2
      rw[YM k]
    · intro k
      injection k with k
      subst k
      exact e1.symm.trans e2
  · cases hk with
    | agg e1 =>
    cases hk0 with
    | agg e2 =>
    rename_i c1 c2
    rw[VG h e1 e2]
    constructor
    · intro k;rw[Array.ext' k]
    · intro k;injection k with k;rw[k]
theorem ft       {k : AV} {k' : Value} (hk : AM   ρ k k') : ∀ {es : List (AV × AV)} {l : List MapEntry} {i : Nat} {r : Option (Nat × AV)}, Gu    k es i = some r → CT   ρ es l →
      match r with
      | none=>∀e∈l,e.key≠k'
      | some (j,v)=>∃m e',j=i+m∧l[m]? = some e'∧e'.key=k'∧AM ρ v e'.val:=by
  intro es l i r h he
  induction he generalizing i r with
  | nil=>simp[Gu]at h;subst h;simp
  | cons hk0 hv hs ih =>
    rename_i k0 v0 e0 l l'
    simp only[Gu,tH]at h
    obtain⟨b,hb',h⟩:=h
    have hkv:=O4 hb' hk hk0
    cases b with
    | true =>
      simp only[Option.some.injEq]at h
      subst h
      exact⟨0,e0,rfl,rfl,hkv.1 rfl,hv⟩
    | false =>
      simp only at h
      have:=ih h
      cases r with
      | none =>
        intro e he
        rcases uT.1 he with rfl | he
        · intro hc;have:=hkv.2 hc;cases this
        · exact this e he
      | some q =>
        obtain⟨m,e',q1,q2,q3,q4⟩:=this
        exact⟨m+1,e',by omega,by simpa using q2,q3,q4⟩
theorem Vb{l:List MapEntry}(hd:(l.map (·.key)).Nodup){e e':MapEntry}(h:e∈l)(h':e'∈l)(hk:e.key=e'.key):e=e':=by
  induction l with
  | nil=>cases h
  | cons a l ih =>
    simp only[ta,uS,List.mem_map,not_exists,not_and]at hd
    rcases uT.1 h with h1 | h1
    · rcases uT.1            h' with h2 | h2
      · rw[h1,h2]
      · rw[h1]at hk;exact absurd hk.symm (hd.1 e' h2)
    · rcases uT.1            h' with h2 | h2
      · rw[h2]at hk;exact absurd hk (hd.1 e h1)
      · exact ih hd.2 h1 h2
theorem FM{b:Nat}{es:Array MapEntry}{c:Nat}(h:w.heap[b]? = some (.map es c)):(getObj b).run P w=.ok (.map es c) w:=by simp[getObj,Sem.run,h]
theorem Gb{b:Nat}{es:Array MapEntry}{c:Nat}(o:Obj)(h:w.heap[b]? = some (.map es c)):(Go.setObj b o).run P w=.ok () { w with heap:=w.heap.setIfInBounds b o }:=by simp[Go.setObj,Sem.run,h]
theorem gL(h:As P ρ s w){kt i:Nat}{es:List (AV×AV)}{rb:RB}(hes:X9 s kt i=some es)(hr:ρ i=some rb):Gj P ρ w kt es rb:=by
 unfold X9 at hes
 split at hes<;>first | (cases hes;done) | skip
 all_goals
  rename_i kt' es' hg
  obtain⟨h1,h2⟩:=AA hes
  injection h2 with h2
  have h1:=tM h1
  subst h1
  subst h2
  exact h.obj _ _ rb hg hr
theorem Ex{kt i:Nat}{es:List (AV×AV)}(h:IG s kt i=some es):s.heap.get i=some (.map kt es):=by
 unfold IG at h
 split at h
 ·rename_i kt' es' hg
  obtain⟨h1,h2⟩:=AA h
  injection h2 with h2
  rw[hg,h2,tM h1]
 ·cases h
theorem QW      {kt : TypeId} {k : AV} {k' : Value} {lk : Lit} {es : List (AV × AV)} {es' : Array MapEntry} {clock : Nat} {l : List MapEntry} {r : Option (Nat × AV)} (K : Go.Maps.Keyed P kt) (hx : keyOf P kt k' = some lk) (hk : AM   ρ k k')
    (hst:MapKept.Stamped es' clock) (hp:l.Perm es'.toList) (he:CT ρ es l) (hty:∀e∈es'.toList,∃l,keyOf P kt e.key=some l) (hf:Gu k es 0=some r):
    match r with
    | none=>(∀w:World,(Instr.findKey kt k' es'.toList).run P w=.ok none w)∧∀e∈es'.toList,e.key≠k'
    | some (m,v)=>∃j e,(∀w:World,(Instr.findKey kt k' es'.toList).run P w=.ok (some (j,e.val)) w)∧es'.toList[j]? = some e∧l[m]? = some e∧e.key=k'∧AM ρ v e.val:=by
  have hfa:=ft hk hf he
  cases r with
  | none =>
    have hno:∀e∈es'.toList,e.key≠k':=fun e he=>hfa e (hp.mem_iff.2 he)
    refine⟨fun w=>?_,hno⟩
    rcases K.find w hx es'.toList hty with⟨h1,_⟩ | ⟨j,e,h1,h2,h3⟩
    · exact h1
    · exact absurd h3 (hno e (tf h2))
  | some q =>
    obtain⟨m,v⟩:=q
    obtain⟨m',e',q1,q2,q3,q4⟩:=hfa
    have:m'=m:=by omega
    subst this
    have hmem:e'∈es'.toList:=hp.mem_iff.1 (tf q2)
    obtain⟨j,hj,hj2⟩:=List.mem_iff_getElem.1 hmem
    refine⟨j,e',fun w=>?_,by rw[tQ hj,hj2],q2,q3,q4⟩
    rcases K.find w hx es'.toList hty with⟨_,h2⟩ | ⟨j',e,h1,h2,h3⟩
    · exact absurd q3 (h2 e' hmem)
    · have heq:e=e':=Vb hst.2.2 (tf h2) hmem (h3.trans q3.symm)
      subst heq
      have hjj:j'=j:=by
        have hn:=hst.2.2
        obtain⟨hj',h2'⟩:=List.getElem?_eq_some_iff.1 h2
        have hk2:(es'.toList.map (·.key))[j']'(by simpa using hj')=(es'.toList.map (·.key))[j]'(by simpa using hj):=by simp only[List.getElem_map];rw[h2',hj2]
        exact(List.getElem_inj hn).1 hk2
      rw[h1,hjj]
theorem VI         (h : As  P ρ s w) {t : TypeId} {m k v : AV} {m' k' : Value} {ok : Bool} (hmo : IH    P t = true) (hs : HQ      P s t m k ok = some v) (hm : AM   ρ m m') (hk : AM   ρ k k') :
    ∃v',(Instr.lookup t m' k' ok).run P w=.ok v' w∧AM ρ v v':=by
  unfold HQ at hs
  split at hs<;>first | (cases hs;done) | skip
  rename_i kt et hu
  have hko:FG P kt=true:=by simpa only[IH,hu]using hmo
  have K:=G3 hko
  obtain⟨hsk,hg⟩:=AA hs
  clear hs
  obtain⟨lk,hx⟩:=EG hko hsk hk
  simp only[tH]at hg
  obtain⟨es,hes,r,hf,p,hp,hg⟩:=hg
  injection hg with hg
  have hent:∃ (es':Array MapEntry) (clock:Nat) (l:List MapEntry),MapKept.Stamped es' clock∧l.Perm es'.toList∧CT ρ es l∧(∀e∈es'.toList,∃l,keyOf P kt e.key=some l)∧(∀f:Array MapEntry→Sem Value,(do
      let es ← match m' with
        | .map none=>pure #[]
        | .map (some r)=>do
          let .map es _ ← getObj r | stuck "Lookup: map expected"
          pure es
        | _ => stuck "Lookup: map expected"
      f es:Sem Value).run P w=(f es').run P w):=by
    split at hes<;>first | (cases hes;done) | skip
    · injection hes with hes;subst hes
      cases hm
      exact⟨#[],0,[],MapKept.stamped_empty 0,.refl _,.nil,by simp,fun f=>by simp⟩
    · cases hm with
      | map hr =>
        rename_i rb
        obtain⟨es',clock,e1,e2,⟨l,e3,e4⟩,e5⟩:=(gL h hes hr).ex
        exact⟨es',clock,l,e2,e3,e4,e5,fun f=>by simp[FM e1]⟩
  obtain⟨es',clock,l,hst,hperm,he,hty,hrun⟩:=hent
  have hck:=K.check w es'.isEmpty hx
  have hfk:=QW K hx hk hst hperm he hty hf
  have main:∃v':Value,AM ρ p.1 v'∧(Instr.lookup t m' k' ok).run P w=.ok (if ok then .tuple #[v',.bool p.2]else v') w:=by
    unfold Instr.lookup
    rw[Sem.run_bind,AH hu]
    simp only[Result.andThen_ok]
    cases r with
    | none =>
      simp only at hfk
      simp only[tH]at hp
      obtain⟨z,hz,hp⟩:=hp
      injection hp with hp;subst hp
      obtain⟨z',hz1,hz2⟩:=PQ ρ hz
      refine⟨z',hz2,?_⟩
      refine(hrun _).trans ?_
      simp[hck,hfk.1 w,hz1]
    | some q =>
      obtain⟨j,v0⟩:=q
      simp only[Option.some.injEq]at hp
      subst hp
      obtain⟨j',e,q1,q2,q3,q4,q5⟩:=hfk
      refine⟨e.val,q5,?_⟩
      refine(hrun _).trans ?_
      simp[hck,q1 w]
  obtain⟨v',m1,m2⟩:=main
  refine⟨_,m2,?_⟩
  subst hg
  cases ok with
  | true=>exact .tuple (.cons m1 (.cons (.bool _) .nil))
  | false=>exact m1
theorem CT.setNth{es:List (AV×AV)}{l:List MapEntry}(h:CT ρ es l){v:AV}{k' v':Value}(hv:AM ρ v v'):∀ {m:Nat}{e':MapEntry},l[m]? = some e'→e'.key=k' →
  CT ρ (setNth es m v) (l.modify m fun e=>{ e with key:=k',val:=v' }):=by
 induction h with
 | nil=>intro m e' h1;simp at h1
 | cons hk0 hv0 hs ih =>
  intro m e' h1 h2
  cases m with
  | zero =>
   simp at h1
   subst h1
   subst h2
   exact .cons hk0 hv hs
  | succ m=>exact .cons hk0 hv0 (ih (by simpa using h1) h2)
theorem CT.delNth{es:List (AV×AV)}{l:List MapEntry}(h:CT ρ es l):∀ (m:Nat),CT ρ (delNth es m) (l.eraseIdx m):=by
 induction h with
 | nil=>intro m;simp[Go.Proofs.YtoaaclpjkelofaaGreatDoor.Am.delNth];exact .nil
 | cons hk0 hv0 hs ih =>
  intro m
  cases m with
  | zero=>exact hs
  | succ m=>exact .cons hk0 hv0 (ih m)
theorem CT.append{es fs:List (AV×AV)}{l m:List MapEntry}(h:CT ρ es l)(k:CT ρ fs m):CT ρ (es++fs) (l++m):=by
 induction h with
 | nil=>exact k
 | cons hk0 hv0 hs ih=>exact .cons hk0 hv0 ih
theorem Nd{l:List MapEntry}{m:Nat}{e:MapEntry}(h:l[m]? = some e):l.Perm (e::l.eraseIdx m):=by
  induction l generalizing m with
  | nil=>simp at h
  | cons a l ih =>
    cases m with
    | zero=>simp at h;subst h;exact .refl _
    | succ m =>
      have:=ih (m:=m) (by simpa using h)
      exact(this.cons a).trans (.swap e a _)
theorem G9{l:List MapEntry}{m:Nat}{e:MapEntry}(f:MapEntry→MapEntry)(h:l[m]? = some e):(l.modify m f).Perm (f e::l.eraseIdx m):=by
  induction l generalizing m with
  | nil=>simp at h
  | cons a l ih =>
    cases m with
    | zero=>simp at h;subst h;exact .refl _
    | succ m =>
      have:=ih (m:=m) (by simpa using h)
      exact(this.cons a).trans (.swap (f e) a _)
theorem La{l l2:List MapEntry}(hp:l.Perm l2){m j:Nat}{e:MapEntry}(h:l[m]? = some e)(h2:l2[j]? = some e):(l.eraseIdx m).Perm (l2.eraseIdx j):=
 (((Nd h).symm.trans hp).trans (Nd h2)).cons_inv
theorem Kj(h:As P ρ s w){i clock clock1 kt:Nat}{es es1:List (AV×AV)}{es' es1':Array MapEntry}{l1:List MapEntry}{rb:RB}(hg:s.heap.get i=some (.map kt es))(hr:ρ i=some rb)
  (hb:w.heap[rb.b]? = some (.map es' clock)) (hst:MapKept.Stamped es1' clock1) (hp:l1.Perm es1'.toList) (he:CT ρ es1 l1) (hty:∀e∈es1'.toList,∃l,keyOf P kt e.key=some l):
  As P ρ (setObj s i (.map kt es1)) { w with heap:=w.heap.setIfInBounds rb.b (.map es1' clock1) } ∧
   Fr ρ s w ρ (setObj s i (.map kt es1)) { w with heap:=w.heap.setIfInBounds rb.b (.map es1' clock1) }:=by
 have hlt:=h.lt i rb hr
 exact h.set hg hr rfl (fun p hp=>by cases hp) rfl (by simp) (fun b hne=>by simp[Array.getElem?_setIfInBounds_ne (Ne.symm hne)]) rfl rfl rfl
  ⟨es1',clock1,by simp[hlt],hst,⟨l1,hp,he⟩,hty⟩
theorem Im         (h : As  P ρ s w) {t : TypeId} {m k v : AV} {m' k' v' : Value} (hmo : IH    P t = true) (hs : Gd      P s t m k v = some s1) (hm : AM   ρ m m') (hk : AM   ρ k k') (hv : AM   ρ v v') :
    ∃w1,(Instr.mapUpdate t m' k' v').run P w=.ok () w1∧As P ρ s1 w1∧Fr ρ s w ρ s1 w1:=by
  unfold Gd at hs
  split at hs<;>first | (cases hs;done) | skip
  rename_i kt et i hu
  have hko:FG P kt=true:=by simpa only[IH,hu]using hmo
  have K:=G3 hko
  obtain⟨hsk,hg⟩:=AA hs
  clear hs
  obtain⟨lk,hx⟩:=EG hko hsk hk
  simp only[g8,tH]at hg
  obtain⟨es,hes,es1,⟨r,hf,hr1⟩,hg⟩:=hg
  injection hg with hg
  subst hg
  have hget:=Ex hes
  cases hm with
  | map hr =>
    rename_i rb
    obtain⟨es',clock,e1,e2,⟨l,e3,e4⟩,e5⟩:=(show Gj P ρ w kt es rb from h.obj i _ rb hget hr).ex
    have hck:=K.check w false hx
    have hfk:=QW K hx hk e2 e3 e4 e5 hf
    cases r with
    | some q =>
      obtain⟨m,v0⟩:=q
      simp only[Option.some.injEq]at hr1
      subst hr1
      obtain⟨j,e,q1,q2,q3,q4,q5⟩:=hfk
      have hj:es'[j]? = some e:=by rw[Array.getElem?_toList]at q2;exact q2
      have hst:=MapKept.stamped_modify (i:=j) e2 (fun e=>{ e with key:=k',val:=v' }) (fun _ _=>rfl) (fun e' he' hej=>by rw[hj]at hej;injection hej with hej;subst hej;exact q4.symm)
      have hset:=Kj (clock1:=clock) (es1':=es'.modify j fun e=>{ e with key:=k',val:=v' }) (l1:=l.modify m fun e=>{ e with key:=k',val:=v' }) h hget hr e1 hst
        (by rw[Array.toList_modify];exact(G9 (fun e=>{ e with key:=k',val:=v' }) q3).trans (((La e3 q3 q2).cons _).trans (G9 (fun e=>{ e with key:=k',val:=v' }) q2).symm)) (e4.setNth hv q3 q4)
        (fun x hx'=>by
          rw[Array.toList_modify]at hx'
          rcases uT.1 ((G9 (fun e=>{ e with key:=k',val:=v' }) q2).mem_iff.1 hx')with rfl | hx'
          · exact⟨lk,hx⟩
          · exact e5 x (List.mem_of_mem_eraseIdx hx'))
      refine⟨_,?_,hset.1,hset.2⟩
      have hkey:((es'[j]?.map (·.key)).getD k')=k':=by simp[hj,q4]
      simp[Instr.mapUpdate,AH hu,FM e1,hck,q1 w,hkey,K.stays w hx,Gb _ e1]
    | none =>
      simp only[Option.some.injEq]at hr1
      subst hr1
      have hset:=Kj (clock1:=clock+1) (es1':=es'.push { key:=k',val:=v',born:=clock }) (l1:=l++[{ key:=k',val:=v',born:=clock }]) h hget hr e1
        (MapKept.stamped_push e2 hfk.2) (by rw[Array.toList_push];exact e3.append_right _) (e4.append (.cons hk hv .nil))
        (fun x hx'=>by
          rw[Array.toList_push,uu,ul]at hx'
          rcases hx' with hx' | rfl
          · exact e5 x hx'
          · exact⟨lk,hx⟩)
      refine⟨_,?_,hset.1,hset.2⟩
      simp[Instr.mapUpdate,AH hu,FM e1,hck,hfk.1 w,Gb _ e1]
theorem Uq         (h : As  P ρ s w) {t ty : TypeId} {m k : AV} {m' k' : Value} {tys : Array TypeId} (hmo : IH    P t = true) (ht : tys[0]? = some t) (hs : L5      P s t m k = some s1) (hm : AM   ρ m m') (hk : AM   ρ k k') :
    ∃w1,(Builtin.delete_ tys ty #[m',k']).run P w=.ok undef w1∧As P ρ s1 w1∧Fr ρ s w ρ s1 w1:=by
  unfold L5 at hs
  split at hs<;>first | (cases hs;done) | skip
  rename_i kt et hu
  have hko:FG P kt=true:=by simpa only[IH,hu]using hmo
  have K:=G3 hko
  obtain⟨hsk,hg⟩:=AA hs
  clear hs
  obtain⟨lk,hx⟩:=EG hko hsk hk
  split at hg<;>first | (cases hg;done) | skip
  · injection hg with hg;subst hg
    cases hm
    exact⟨w,by simp[Builtin.delete_,ht,AH hu,K.check w true hx,undef],h,Fr.refl _ _ _⟩
  · rename_i i
    simp only[tH]at hg
    obtain⟨es,hes,r,hf,hg⟩:=hg
    have hget:=Ex hes
    cases hm with
    | map hr =>
      rename_i rb
      obtain⟨es',clock,e1,e2,⟨l,e3,e4⟩,e5⟩:=(show Gj P ρ w kt es rb from h.obj i _ rb hget hr).ex
      have hck:=K.check w es'.isEmpty hx
      have hfk:=QW K hx hk e2 e3 e4 e5 hf
      cases r with
      | some q =>
        obtain⟨m,v0⟩:=q
        simp only[Option.some.injEq]at hg
        subst hg
        obtain⟨j,e,q1,q2,q3,q4,q5⟩:=hfk
        have hset:=Kj (clock1:=clock) (es1':=es'.eraseIdxIfInBounds j) (l1:=l.eraseIdx m) h hget hr e1 (MapKept.stamped_erase e2 j)
          (by rw[Array.toList_eraseIdxIfInBounds];exact La e3 q3 q2) (e4.delNth m)
          (fun x hx'=>by
            rw[Array.toList_eraseIdxIfInBounds]at hx'
            exact e5 x (List.mem_of_mem_eraseIdx hx'))
        refine⟨_,?_,hset.1,hset.2⟩
        simp[Builtin.delete_,ht,AH hu,FM e1,hck,q1 w,Gb _ e1,undef]
      | none =>
        simp only[Option.some.injEq]at hg
        subst hg
        have hlt:=h.lt i rb hr
        have hsame:w.heap.setIfInBounds rb.b (.map es' clock)=w.heap:=by
          apply Array.ext (by simp)
          intro j hj1 hj2
          by_cases e:rb.b=j
          · subst e
            rw[Array.getElem?_eq_getElem hlt]at e1
            injection e1 with e1
            simp[e1]
          · rw[Array.getElem_setIfInBounds_ne hj2 e]
        refine⟨w,?_,h,Fr.refl _ _ _⟩
        simp[Builtin.delete_,ht,AH hu,FM e1,hck,hfk.1 w,Gb _ e1,undef,hsame]
end
def RO:List (AV×AV)→List (AV×AV)→Option (List (AV×AV))
 | [],es=>some es
 | (k,v)::fs,es=>(g8 k v es).bind fun es'=>RO fs es'
section
variable{P:Program}{ρ ρ1 ρ2:A5}{s s1 s2:AD}{w w1 w2:World}
abbrev KV:=Value×Value
def kv(e:MapEntry):KV:=(e.key,e.val)
open Classical in
def Fu (k v:Value):List KV→List KV
 | []=>[(k,v)]
 | e::l=>if e.1=k then (k,v)::l else e::Fu k v l
inductive KC (ρ:A5):List (AV×AV)→List KV→Prop
 | nil:KC ρ [] []
 | cons {k v:AV} {e:KV} {l:List (AV×AV)} {l':List KV} (hk:AM ρ k e.1) (hv:AM ρ v e.2) (hs:KC ρ l l'):KC ρ ((k,v)::l) (e::l')
theorem CT.p{es:List (AV×AV)}{l:List MapEntry}(h:CT ρ es l):KC ρ es (l.map kv):=by
 induction h with
 | nil=>exact .nil
 | cons hk hv _ ih=>exact .cons hk hv ih
theorem CT.of_p:∀ {es:List (AV×AV)}{l:List MapEntry},KC ρ es (l.map kv)→CT ρ es l
 | _,[],h=>by cases h;exact .nil
 | _,e::l,h=>by
  cases h with
  | cons hk hv hs=>exact .cons hk hv (CT.of_p hs)
theorem kO      {k : AV} {k' : Value} (hk : AM   ρ k k') {v : AV} {v' : Value} (hv : AM   ρ v v') : ∀ {es : List (AV × AV)} {l : List KV} {i : Nat} {r : Option (Nat × AV)}, Gu    k es i = some r → KC   ρ es l →
    match r with
    | none=>KC ρ (es++[(k,v)]) (Fu k' v' l)
    | some (j,_)=>i≤j∧KC ρ (setNth es (j - i) v) (Fu k' v' l):=by
  intro es l i r h he
  induction he generalizing i r with
  | nil=>simp[Gu]at h;subst h;exact .cons hk hv .nil
  | cons hk0 hv0 hs ih =>
    rename_i k0 v0 e0 l l'
    simp only[Gu,tH]at h
    obtain⟨b,hb',h⟩:=h
    have hkv:=O4 hb' hk hk0
    cases b with
    | true =>
      simp only[Option.some.injEq]at h
      subst h
      have:=hkv.1 rfl
      refine⟨tJ _,?_⟩
      simp only[Nat.sub_self,setNth,Fu,this,if_true]
      exact .cons (by rw[← this];exact hk0) hv hs
    | false =>
      have hne:e0.1≠k':=fun e=>by have:=hkv.2 e;cases this
      simp only at h
      have:=ih h
      simp only[Fu,hne,if_false]
      cases r with
      | none=>exact .cons hk0 hv0 this
      | some q =>
        obtain⟨h1,h2⟩:=this
        refine⟨by omega,?_⟩
        rw[show q.1 - i=(q.1 - (i+1))+1 from by omega]
        exact .cons hk0 hv0 h2
theorem pc{k v:AV}{k' v':Value}(hk:AM ρ k k')(hv:AM ρ v v'){es es1:List (AV×AV)}{l:List KV}(h:g8 k v es=some es1)(he:KC ρ es l):KC ρ es1 (Fu k' v' l):=by
 unfold g8 at h
 simp only[tH]at h
 obtain⟨r,hf,h⟩:=h
 have:=kO hk hv hf he
 cases r with
 | none=>injection h with h;subst h;exact this
 | some q=>injection h with h;subst h;exact this.2
def PE (l m:List KV):List KV:=m.foldl (fun l e=>Fu e.1 e.2 l) l
theorem TQ:∀ {fs es es1:List (AV×AV)}{l m:List KV},RO fs es=some es1→KC ρ es l→KC ρ fs m→KC ρ es1 (PE l m)
 | [],es,es1,l,m,h,he,hf=>by cases hf;injection h with h;subst h;exact he
 | (k,v)::fs,es,es1,l,m,h,he,hf=>by
  cases hf with
  | cons hk hv hs =>
   simp only[RO,tH]at h
   obtain⟨es',h1,h2⟩:=h
   exact TQ (l:=Fu _ _ l) h2 (pc hk hv h1 he) hs
theorem S8       {k v : Value} : ∀ {l : List KV}, (l.map (·.1)).Nodup → ((Fu   k v l).map (·.1)).Nodup ∧ (∀ p, p ∈ Fu   k v l ↔ p = (k, v) ∨ p ∈ l ∧ p.1 ≠ k) ∧ (∀ x, x ∈ (Fu   k v l).map (·.1) ↔ x = k ∨ x ∈ l.map (·.1))
  | [],_=>by
    refine⟨by simp[Fu],fun p=>by simp[Fu],fun x=>by simp[Fu]⟩
  | e::l,h=>by
    simp only[ta,uS]at h
    obtain⟨h1,h2,h3⟩:=S8 (k:=k) (v:=v) h.2
    by_cases he:e.1=k
    · have hm:Fu k v (e::l)=(k,v)::l:=by simp[Fu,he]
      rw[hm]
      have hno:∀p∈l,p.1≠k:=fun p hp hc=>h.1 (by rw[he,← hc];exact List.mem_map_of_mem hp)
      refine⟨by simp only[ta,uS];rw[← he];exact h,fun p=>?_,fun x=>by simp[← he]⟩
      simp only[uT]
      constructor
      · rintro (h' | h')
        · exact .inl h'
        · exact .inr ⟨.inr h',hno p h'⟩
      · rintro (h' | ⟨h' | h', h''⟩)
        · exact .inl h'
        · subst h';exact absurd he h''
        · exact .inr h'
    · have hm:Fu k v (e::l)=e::Fu k v l:=by simp[Fu,he]
      rw[hm]
      refine⟨?_,fun p=>?_,fun x=>?_⟩
      · simp only[ta,uS]
        refine⟨fun hc=>?_,h1⟩
        rcases(h3 _).1 hc with hc | hc
        · exact he hc
        · exact h.1 hc
      · simp only[uT,h2]
        constructor
        · rintro (h' | h' | ⟨h', h''⟩)
          · exact .inr ⟨.inl h',by rw[h'];exact he⟩
          · exact .inl h'
          · exact .inr ⟨.inr h',h''⟩
        · rintro (h' | ⟨h' | h', h''⟩)
          · exact .inr (.inl h')
          · exact .inl h'
          · exact .inr (.inr ⟨h',h''⟩)
      · simp only[ta,uT,h3]
        constructor
        · rintro (h' | h' | h')
          · exact .inr (.inl h')
          · exact .inl h'
          · exact .inr (.inr h')
        · rintro (h' | h' | h')
          · exact .inr (.inl h')
          · exact .inl h'
          · exact .inr (.inr h')
theorem PF:∀ {m l:List KV},(l.map (·.1)).Nodup→(m.map (·.1)).Nodup→((PE l m).map (·.1)).Nodup∧∀p,p∈PE l m↔p∈m∨p∈l∧p.1 ∉ m.map (·.1)
  | [],l,h,_=>by simpa[PE]using h
  | e::m,l,h,hm=>by
    simp only[ta,uS]at hm
    obtain⟨h1,h2,_⟩:=S8 (k:=e.1) (v:=e.2) h
    obtain⟨h3,h4⟩:=PF (m:=m) h1 hm.2
    refine⟨h3,fun p=>?_⟩
    show p∈PE (Fu e.1 e.2 l) m↔_
    rw[h4,h2]
    simp only[uT,ta,not_or]
    constructor
    · rintro (h' | ⟨h' | ⟨h', h''⟩, h3'⟩)
      · exact .inl (.inr h')
      · exact .inl (.inl h')
      · exact .inr ⟨h',h'',h3'⟩
    · rintro ((h' | h') | ⟨h', h'', h3'⟩)
      · exact .inr ⟨.inl h',by rw[h'];exact hm.1⟩
      · exact .inl h'
      · exact .inr ⟨.inr ⟨h',h''⟩,h3'⟩
theorem Lb{α:Type}:∀ {l m:List α},l.Nodup→m.Nodup→(∀x,x∈l↔x∈m)→l.Perm m
 | [],m,_,_,h=>by
  have:m=[]:=List.eq_nil_iff_forall_not_mem.2 fun x hx=>by have:=(h x).2 hx;cases this
  rw[this]
 | a::l,m,hl,hm,h=>by
  obtain⟨m1,m2,rfl⟩:=List.append_of_mem ((h a).1 tS)
  have hp:(m1++a::m2).Perm (a::(m1++m2)):=List.perm_middle
  have hm':(a::(m1++m2)).Nodup:=hp.nodup_iff.1 hm
  simp only[uS]at hl hm'
  refine List.Perm.trans (List.Perm.cons a (Lb hl.2 hm'.2 fun x=>?_)) hp.symm
  constructor
  ·intro hx
   have:=hp.mem_iff.1 ((h x).1 (tW _ hx))
   rcases uT.1 this with rfl | h'
   ·exact absurd hx hl.1
   ·exact h'
  ·intro hx
   have:=(h x).2 (hp.mem_iff.2 (tW _ hx))
   rcases uT.1 this with rfl | h'
   ·exact absurd hx hm'.1
   ·exact h'
theorem PN{α β:Type}(f:α→β):∀ {l:List β}{m:List α},l.Perm (m.map f)→∃l':List α,l'.Perm m∧l'.map f=l
 | [],m,h=>by
  have:m=[]:=by have:=h.length_eq;simp at this;exact uQ this.symm
  subst this
  exact⟨[],.refl _,rfl⟩
 | b::l,m,h=>by
  obtain⟨a,ha,rfl⟩:=List.mem_map.1 (h.mem_iff.1 tS)
  obtain⟨m1,m2,rfl⟩:=List.append_of_mem ha
  have hp:(m1++a::m2).Perm (a::(m1++m2)):=List.perm_middle
  have:l.Perm ((m1++m2).map f):=(h.trans (hp.map f)).cons_inv
  obtain⟨l',h1,h2⟩:=PN f this
  exact⟨a::l',(h1.cons a).trans hp.symm,by simp[h2]⟩
theorem II{l:List KV}(h:(l.map (·.1)).Nodup):l.Nodup:=by
 induction l with
 | nil=>exact List.nodup_nil
 | cons a l ih =>
  simp only[ta,uS]at h
  exact uS.2 ⟨fun hc=>h.1 (List.mem_map_of_mem hc),ih h.2⟩
def Rv(v:Value):Option (DataW Value×List MemPlace):=some (.held v,[])
def SD(P:Program)(kt:TypeId)(es:Array MapEntry):Prop:=∀e∈es.toList,∃l,keyOf P kt e.key=some l
theorem pK{kt:TypeId}{es:Array MapEntry}{clock:Nat}(hst:MapKept.Stamped es clock)(hty:SD P kt es)(hsz:es.size≤maxLen):WideElems.Fit P kt Rv es clock:=
 ⟨hsz,hst,fun x hx=>let ⟨l,hl⟩:=hty x hx;⟨(l,.held x.val),by simp[WideElems.rd,hl,Rv]⟩⟩
theorem RM{kt:TypeId}{es:Array MapEntry}{clock b:Nat}(hb:w.heap[b]? = some (.map es clock))(hst:MapKept.Stamped es clock)(hty:SD P kt es)(hsz:es.size≤maxLen):
  w.ownsMap P kt Rv b es.size (DataW.map ((es.toList.map (WideElems.rg P kt Rv)).foldr DataW.insert [])):=⟨es,clock,hb,pK hst hty hsz,tJ _,rfl⟩
theorem iF{kt:TypeId}{e:MapEntry}{l:Lit}(h:keyOf P kt e.key=some l):WideElems.rg P kt Rv e=(l,.held e.val):=by simp[WideElems.rg,WideElems.rd,h,Rv]
theorem Kc{kt:TypeId}{es:Array MapEntry}(hty:SD P kt es)(q:Lit×DataW Value):
  q∈(es.toList.map (WideElems.rg P kt Rv)).foldr DataW.insert []↔∃e∈es.toList,∃l,keyOf P kt e.key=some l∧q=(l,.held e.val):=by
 rw[mem_sorted,List.mem_map]
 constructor
 ·rintro⟨e,he,rfl⟩
  obtain⟨l,hl⟩:=hty e he
  exact⟨e,he,l,hl,iF hl⟩
 ·rintro⟨e,he,l,hl,rfl⟩
  exact⟨e,he,iF hl⟩
end
section
variable{P:Program}{ρ ρ1 ρ2:A5}{s s1 s2:AD}{w w1 w2:World}
theorem ez{ty:TypeId}{tys:Array TypeId}{x v:AV}{x':Value}(hs:SX x=some v)(hx:AM ρ x x'):∃v',(Builtin.unsafeSliceData_ tys ty #[x']).run P w=.ok v' w∧AM ρ v v':=by
 unfold SX at hs
 split at hs<;>first | (cases hs;done) | skip
 ·injection hs with hs;subst hs
  cases hx
  exact⟨_,Go.Lib.run_unsafeSliceData_nil w _ _ _ _,.ptrNil⟩
 ·injection hs with hs;subst hs
  cases hx with
  | slice hr hl=>exact⟨_,Go.Lib.run_unsafeSliceData_row w _ _ _ _ _ (by omega),.ptr hr⟩
  | sliceOpen hr hs hl h1 h2=>exact⟨_,Go.Lib.run_unsafeSliceData_row w _ _ _ _ _ (by omega),.ptr hr⟩
theorem Ku:∀ {l:List AV}{b:List Nat},Ac.bytesOf l=some b→∀v∈l,∃n:Int,v=.int .u8 n
 | [],_,_,v,hv=>by cases hv
 | a::l,b,hb,v,hv=>by
  unfold Ac.bytesOf at hb
  split at hb<;>first | (cases hb;done) | skip
  ·rename_i hq;cases hq
  ·rename_i m l2 hq
   injection hq with q1 q2
   subst q1;subst q2
   obtain⟨_,hg⟩:=AA hb
   simp only[tH]at hg
   obtain⟨b',hb',_⟩:=hg
   rcases uT.1 hv with rfl | hv
   ·exact⟨_,rfl⟩
   ·exact Ku hb' v hv
theorem SO       : ∀ {l : List AV} {l' : List Value} {b : List Nat}, Ac.bytesOf    l = some b → AJ    ρ l l' → ∃ u : List UInt8, u.map (fun (x : UInt8) => x.toNat) = b ∧ ∀ (j : Nat) (x : UInt8), u[j]? = some x → l'[j]? = some (Value.int .u8 x.toNat)
  | [],l',b,h,hl=>by
    cases hl
    simp[Ac.bytesOf]at h
    subst h
    exact⟨[],rfl,by simp⟩
  | a::l,l',b,h,hl=>by
    cases hl with
    | cons ha hl =>
      unfold Ac.bytesOf at h
      split at h<;>first | (cases h;done) | skip
      · rename_i hq;cases hq
      · rename_i n l2 hq
        injection hq with h1 h2
        subst h1;subst h2
        obtain⟨hb,hg⟩:=AA h
        clear h
        simp only[tH]at hg
        obtain⟨b',hb',hg⟩:=hg
        injection hg with hg;subst hg
        cases ha
        obtain⟨u,e1,e2⟩:=SO hb' hl
        have hn:n<256:=by simpa[tP]using hb
        have hto:(UInt8.ofNat n).toNat=n:=by simp;omega
        refine⟨UInt8.ofNat n::u,by simp[e1];omega,fun j x hj=>?_⟩
        cases j with
        | zero=>simp at hj;subst hj;simp[hto]
        | succ j=>simpa using e2 j x (by simpa using hj)
theorem QX(b n:Nat){c:Nat}(hc:c≠b):(w.freeze ⟨b,0,none⟩ n).heap[c]? = w.heap[c]? := by
 unfold World.freeze
 split
 ·rfl
 ·simp[Array.getElem?_modify,Ne.symm hc]
theorem Sq(a:Addr)(n:Nat):(w.freeze a n).heap.size=w.heap.size:=by
 unfold World.freeze
 split
 ·rfl
 ·simp
theorem im       (h : As  P ρ s w) {ty : TypeId} {tys : Array TypeId} {aS : List AV} {as' : List Value} {v : AV} (hs : Pi    P s tys.toList aS = some (v, s1)) (has : AJ    ρ aS as') :
    ∃v' w1 ρ1,(Builtin.unsafeString_ tys ty as'.toArray).run P w=.ok v' w1∧AM ρ1 v v'∧As P ρ1 s1 w1∧Fr ρ s w ρ1 s1 w1:=by
  unfold Pi at hs
  split at hs<;>first | (cases hs;done) | skip
  rename_i pt it a n hty
  have htys:tys=#[pt,it]:=Array.ext' hty
  subst htys
  cases has with
  | cons hx h2 =>
  cases h2 with
  | cons hn h3 =>
  cases h3
  cases hn
  split at hs
  · injection hs with hs
    injection hs with e1 e2
    subst e1;subst e2
    cases hx<;>exact⟨_,w,ρ,Go.Lib.run_unsafeString_none w _ _ _ _,.str rfl,h,Fr.refl _ _ _⟩
  · rename_i n
    unfold MF at hs
    split at hs<;>first | (cases hs;done) | skip
    rename_i i o
    split at hs<;>first | (cases hs;done) | skip
    rename_i e hu
    simp only[tH]at hs
    obtain⟨r,hrow,hs⟩:=hs
    obtain⟨hb,hs⟩:=AA hs
    simp only[tH]at hs
    obtain⟨z,hz,hs⟩:=hs
    obtain⟨hz1,hs⟩:=AA hs
    simp only[tH]at hs
    obtain⟨l,hl,b,hbs,hs⟩:=hs
    injection hs with hs
    injection hs with e1 e2
    subst e1;subst e2
    simp only[Bool.and_eq_true,tK]at hb
    obtain⟨⟨⟨⟨ho,hby⟩,ho0⟩,he⟩,hn⟩:=hb
    have ho0:=tM ho0
    have he:=tM he
    have hz1:=tM hz1
    subst ho0;subst hz1
    cases hx with
    | ptr hr =>
    rename_i rb
    obtain⟨cs,h1,h2,h3⟩:=PL h hrow ho hby hr
    obtain⟨l',k1,k2,k3⟩:=B2 h hr hl
    have hrn:n+1≤r.n:=by
      unfold BG at hl
      rw[hrow,Option.bind_some]at hl
      have:=(AA hl).1
      simpa[tK]using this
    obtain⟨u,u1,u2⟩:=SO hbs k1
    have hlen:u.length=n+1:=by
      have c1:u.length=b.length:=by rw[← u1];simp
      have c2:∀ (l:List AV) (b:List Nat),Ac.bytesOf l=some b→b.length=l.length:=by
        intro l
        induction l with
        | nil=>intro b hb;simp[Ac.bytesOf]at hb;subst hb;rfl
        | cons a l ih =>
          intro b hb
          unfold Ac.bytesOf at hb
          split at hb<;>first | (cases hb;done) | skip
          · rename_i hq;cases hq
          · rename_i m l2 hq
            injection hq with q1 q2
            subst q1;subst q2
            obtain⟨_,hg⟩:=AA hb
            simp only[tH]at hg
            obtain⟨b',hb',hg⟩:=hg
            injection hg with hg;subst hg
            simp[ih b' hb']
      have:=c2 l b hbs
      have:=k1.length
      omega
    have hcell:∀j x,u[j]? = some x→w.cell? ((⟨rb.b,0,none⟩:Addr).add j)=some (.int .u8 x.toNat):=by
      intro j x hj
      have hjl:j<n+1:=by
        rcases tL j (n+1)with h' | h'
        · exact h'
        · rw[tY (by omega)]at hj;cases hj
      have hrow':=Ap hrow
      have hok:BF ρ w r rb:=h.obj i _ rb hrow' hr
      unfold BG at hl
      rw[hrow,Option.bind_some]at hl
      obtain⟨hle,hl⟩:=AA hl
      have hle:0+(n+1)≤r.n:=by simpa[tK]using hle
      have hg:=AE.take_get hl j hjl
      have hll:=AE.take_length hl
      rw[tQ (show j<l.length by omega)]at hg
      obtain⟨v',q1,q2⟩:=hok.cells (0+j) _ (by omega) hg
      obtain⟨v2,q3,q4⟩:=k1.get (k:=j) (tQ (by omega))
      have q5:=u2 j x hj
      rw[q5]at q3
      injection q3 with q3
      subst q3
      rw[By,← show rb.off+(0+j)=0+j from by omega,q1]
      congr 1
      obtain⟨nn,hnn⟩:=Ku hbs l[j] (List.getElem_mem _)
      rw[hnn]at q2 q4
      cases q4
      cases q2
      rfl
    have hrun:=Go.Lib.run_unsafeString_row (P:=P) w pt it ty e hu (Ih hz) rb.b cs.size (by simp[World.shape?,h1,he]) u (by intro hc;rw[hc]at hlen;cases hlen) (by omega) (by omega) hcell
    rw[hlen]at hrun
    have hoff:rb.off+0=0:=by omega
    refine⟨_,_,ρ,by rw[hoff];exact hrun,.str (by simpa using u1),?_⟩
    obtain⟨g1,g2,_,g3,_,g4⟩:=Il h (Ap hrow) hr ho
    have hok:BF ρ w r rb:=h.obj i _ rb (Ap hrow) hr
    obtain⟨q1,q2⟩:=g1.set (o1:=QM r) (w1:=w.freeze ⟨rb.b,0,none⟩ (n+1)) g3 hr (by simpa[wr]using ho) g4 rfl (Sq _ _)
      (fun b hb=>QX _ _ hb) (by unfold World.freeze;split<;>rfl) (by unfold World.freeze;split<;>rfl) (by unfold World.freeze;split<;>rfl)
      (show BF ρ _ { r with n:=0,spare:=true,mode:=.ro,par:=none,bytes:=false,glob:=none } rb from⟨fun k v hk=>absurd hk (Nat.not_lt_zero _),tV _,hok.sz,(fun hc=>by cases hc),fun hc=>absurd rfl hc,(fun hc=>by cases hc),(fun g hg=>by cases hg),fun p hp=>by cases hp⟩)
    exact⟨q1,g2.trans q2⟩
end
section
variable{P:Program}{ρ ρ1 ρ2:A5}{s s1 s2:AD}{w w1 w2:World}
theorem If {f : FuncId} {fn : Func} {e : Array Value → Sem Value} (hf : P.funcs[f]? = some fn) (hn : fn.name ≠ "runtime.NumGoroutine") (hb : fn.body = none) (h1 : Extern.findNext fn = none) (h2 : Extern.find fn = some e) (args : Array Value) {v : Value}
    (hr:(e args).run P w=.ok v w1):(callFunc f args).run P w=.ok (.value v) w1:=by
  simp[callFunc,hf,hn,hb,h1,h2,hr,mark,Sem.run]
theorem LX : (Extern.allGenericRows.lookup "" = none ∧ Extern.allTypedRows.lookup "" = none ∧ Extern.allRows.lookup "" = none ∧ Extern.allNextRows.lookup "" = none) := ⟨by kernel_rfl, by kernel_rfl, by kernel_rfl, by kernel_rfl⟩
theorem So {fn : Func} {n : String} {e : Array Value → Sem Value} (hn : fn.name = n) (ho : fn.origin = "") (h1 : Extern.allGenericRows.lookup n = none) (h2 : Extern.allTypedRows.lookup n = none) (h3 : Extern.allRows.lookup n = some e) (h4 : Extern.allNextRows.lookup n = none) :
    Extern.findNext fn=none∧Extern.find fn=some e:=by
  obtain⟨o1,o2,o3,o4⟩:=LX
  exact⟨by simp only[Extern.findNext,hn,ho,h4,o4];rfl,by simp only[Extern.find,hn,ho,h1,h2,h3];rfl⟩
theorem U3 {fn : Func} {n : String} {e : Array TypeId → Array TypeId → Array Value → Sem Value} (hn : fn.name = n) (ho : fn.origin = "") (h1 : Extern.allGenericRows.lookup n = none) (h2 : Extern.allTypedRows.lookup n = some e) (h4 : Extern.allNextRows.lookup n = none) :
    Extern.findNext fn=none∧Extern.find fn=some (e fn.params fn.resultTypes):=by
  obtain⟨o1,o2,o3,o4⟩:=LX
  exact⟨by simp only[Extern.findNext,hn,ho,h4,o4];rfl,by simp only[Extern.find,hn,ho,h1,h2];rfl⟩
def qE(P:Program)(ρ:A5)(s:AD)(w:World)(r:Result Next)(v:AV)(s1:AD):Prop:=
 ∃v' w1 ρ1,r=.ok (.value v') w1∧AM ρ1 v v'∧As P ρ1 s1 w1∧Fr ρ s w ρ1 s1 w1
theorem As.drew(h:As P ρ s w):As P ρ s w.drew∧Fr ρ s w ρ s w.drew:=
 ⟨⟨fun i o rb hg hr=>(h.obj i o rb hg hr).mono (A5.le_refl ρ) rfl,h.lt,h.sep,h.glb⟩,⟨A5.le_refl ρ,fun _ h _=>h,tJ _,tJ _,rfl,rfl,rfl,fun _ _ _=>rfl,fun _ h=>.inl h,fun _ _ _=>rfl,fun i rb=>NP i rb,fun _ o _ h _=>⟨o,h⟩⟩⟩
theorem VO(h:As P ρ s w)(hf:ρ s.next=none){e t:TypeId}{aS:List AV}{as':List Value}{v:AV}(hu:P.underlying t=some (.slice e))(hz:A1 P e=some 1)(hs:RI e s aS=some (v,s1))(has:AJ ρ aS as')(ps:Array TypeId):
  ∃v' w1 ρ1,(Extern.BytealgMakeNoZero.makeNoZero ps #[t] as'.toArray).run P w=.ok v' w1∧AM ρ1 v v'∧As P ρ1 s1 w1∧Fr ρ s w ρ1 s1 w1:=by
 unfold RI at hs
 split at hs<;>first | (cases hs;done) | skip
 rename_i n
 obtain⟨hb,hs⟩:=AA hs
 injection hs with hs
 injection hs with e1 e2
 subst e1;subst e2
 have hn:n≤1099511627776:=by simpa[tK]using hb
 cases has with
 | cons hx h2 =>
 cases h2
 cases hx
 obtain⟨cs,hrun,hge,hle⟩:=Go.Lib.run_makeNoZero (P:=P) w ps t e hu n (by omega)
 obtain⟨i1,f1⟩:=h.drew
 obtain⟨i2,f2⟩:=i1.drew
 have hl:=A2 (rb:=⟨w.heap.size,0,cs.size,1⟩) hf
 have hblk:((w.drew.drew).alloc (.cells cs e)).heap[w.heap.size]? = some (.cells cs e (0,0)):=World.alloc_heap_new w.drew.drew _
 obtain⟨i3,f3⟩:=i2.new (o:=Co e 1 .leaf n none true) (o':=.cells cs e) (rb:=⟨w.heap.size,0,cs.size,1⟩) hf rfl
  (show BF _ _ { elem:=e,sz:=1,n,c:=.leaf,spare:=true,mode:=.own,par:=none,bytes:=true } _ from
   ⟨fun k v _ hv=>(by rw[AE.get_leaf]at hv;cases hv),hge,rfl,(fun hh=>by cases hh),fun _=>⟨cs,hblk,by simp⟩,fun _=>rfl,(fun g hg=>by cases hg),fun p hp=>by cases hp⟩)
 exact⟨_,_,_,hrun,.sliceOpen (AO _ _) (Nat.one_pos) hge (by simp) (by simp),i3,(f1.trans f2).trans f3⟩
theorem I2           : ∀ (x y : List UInt8), (bif Dw    (DO   x) (DO   y) then (-1 : Int) else bif CM    (DO   x) (DO   y) then 0 else 1) = Go.Lib.compareBytes x y
  | [],[]=>rfl
  | [],_::_=>rfl
  | _::_,[]=>rfl
  | a::x,b::y=>by
    have ih:=I2 x y
    show(bif (bif Nat.blt a.toNat b.toNat then true else bif Nat.beq a.toNat b.toNat then Dw (DO x) (DO y)else false)then (-1:Int)else bif (bif Nat.beq a.toNat b.toNat then CM (DO x) (DO y)else false)then 0 else 1)=if a<b then -1 else if b<a then 1 else Go.Lib.compareBytes x y
    by_cases h1:a<b
    · have:Nat.blt a.toNat b.toNat=true:=by rw[tP];exact h1
      rw[this,if_pos h1];rfl
    · have e1:Nat.blt a.toNat b.toNat=false:=by
        cases hh:Nat.blt a.toNat b.toNat with
        | false=>rfl
        | true=>rw[tP]at hh;exact absurd hh h1
      rw[e1,if_neg h1]
      by_cases h2:b<a
      · have h2' : b.toNat < a.toNat := h2
        have:Nat.beq a.toNat b.toNat=false:=AE.beq_no (by omega)
        rw[this,if_pos h2];rfl
      · have h1' : ¬ a.toNat < b.toNat := h1
        have h2':¬ b.toNat<a.toNat:=h2
        have:Nat.beq a.toNat b.toNat=true:=by rw[uO];omega
        rw[this,if_neg h2]
        exact ih
theorem fo       (h : As  P ρ s w) (hf : ρ s.next = none) {f : FuncId} {e : AD  → List AV → Option (AV × AD)}  {aS : List AV} {v : AV} (he : fm    P f = some e) (hs : e s aS = some (v, s1)) {as' : List Value} (has : AJ    ρ aS as') :
    qE P ρ s w ((callFunc f as'.toArray).run P w) v s1:=by
  unfold fm at he
  split at he<;>first | (cases he;done) | skip
  rename_i fn hfn
  split at he<;>first | (cases he;done) | skip
  rename_i hb
  cases ho : fn.origin == "" with
  | false=>rw[ho]at he;cases he
  | true =>
    rw[ho]at he
    have ho:=eq_of_beq ho
    simp only[cond_true]at he
    unfold Sm at he
    cases h1 : fn.name == "internal/abi.NoEscape" with
    | true =>
      rw[h1]at he
      injection he with he
      subst he
      have hn:=eq_of_beq h1
      unfold RH at hs
      split at hs<;>first | (cases hs;done) | skip
      injection hs with hs
      injection hs with e1 e2
      subst e1;subst e2
      cases has with
      | cons hx h2 =>
      cases h2
      obtain⟨k1,k2⟩:=So hn ho (by kernel_rfl) (by kernel_rfl) (show _=some Extern.AbiNoEscape.same by kernel_rfl) (by kernel_rfl)
      exact⟨_,w,ρ,If hfn (by rw[hn];decide) hb k1 k2 _ (Go.Lib.run_noEscape w _),hx,h,Fr.refl _ _ _⟩
    | false =>
      rw[h1]at he
      simp only[cond_false]at he
      cases h2 : fn.name == "internal/bytealg.abigen_runtime_cmpstring" with
      | true =>
        rw[h2]at he
        injection he with he
        subst he
        have hn:=eq_of_beq h2
        unfold W3 at hs
        split at hs<;>first | (cases hs;done) | skip
        injection hs with hs
        injection hs with e1 e2
        subst e1;subst e2
        cases has with
        | cons hx h3 =>
        cases h3 with
        | cons hy h4 =>
        cases h4
        cases hx with
        | str x1 =>
        cases hy with
        | str y1 =>
        rename_i sx sy
        obtain⟨k1,k2⟩:=So hn ho (by kernel_rfl) (by kernel_rfl) (show _=some Extern.BytealgCompare.compare by kernel_rfl) (by kernel_rfl)
        refine⟨_,w,ρ,If hfn (by rw[hn];decide) hb k1 k2 _ (Go.Lib.run_compareString sx sy w),?_,h,Fr.refl _ _ _⟩
        subst x1;subst y1
        rw[show(bif Dw (sx.data.toList.map fun(b:UInt8)=>b.toNat) (sy.data.toList.map fun(b:UInt8)=>b.toNat)then (-1:Int)else bif CM (sx.data.toList.map fun(b:UInt8)=>b.toNat) (sy.data.toList.map fun(b:UInt8)=>b.toNat)then 0 else 1)=_ from I2 _ _]
        exact .int _ _
      | false =>
        rw[h2]at he
        simp only[cond_false]at he
        cases h3 : fn.name == "internal/bytealg.MakeNoZero" with
        | true =>
          rw[h3]at he
          have hn:=eq_of_beq h3
          simp only[cond_true]at he
          split at he<;>first | (cases he;done) | skip
          rename_i t ht
          split at he<;>first | (cases he;done) | skip
          rename_i el hu
          split at he<;>first | (cases he;done) | skip
          rename_i hz
          injection he with he
          subst he
          have hrt:fn.resultTypes=#[t]:=Array.ext' ht
          obtain⟨k1,k2⟩:=U3 hn ho (by kernel_rfl) (show _=some Extern.BytealgMakeNoZero.makeNoZero by kernel_rfl) (by kernel_rfl)
          obtain⟨v',w1,ρ1,g1,g2,g3,g4⟩:=VO h hf hu hz hs has fn.params
          rw[hrt]at k2
          exact⟨v',w1,ρ1,If hfn (by rw[hn];decide) hb k1 k2 _ g1,g2,g3,g4⟩
        | false=>rw[h3]at he;cases he
end
end
end Go.Proofs.YtoaaclpjkelofaaGreatDoor.Am
