/- Fractions: what a run of a function on fractions makes is told by their values alone; conditions: none. -/
import Derived.Test.YtjnkfbpadpmakaaGreatDoorAmM08
import Derived.Test.YtjnkfbpadpmakaaGreatDoorAmM04
import Derived.Test.YtjnkfbpadpmakaaGreatDoorChecked
set_option linter.unusedVariables false
set_option linter.unusedSimpArgs false
set_option maxRecDepth 16000
namespace Go.Proofs.YtjnkfbpadpmakaaGreatDoor.Am
open Go Go.Proofs
noncomputable section
theorem NT:Tryz.prog.follows .mixedOrders=true:=by kernel_rfl
theorem Kw:Kv Tryz.prog=true:=by kernel_rfl
theorem L8:GoodN (lr Tryz.prog):=⟨rfl,fun _ _ _ _=>rfl⟩
def aI:List AV→Option (List Nat)
 | []=>some []
 | .int .u32 (.ofNat x)::l=>AJ (Nat.blt x LB) ((aI l).bind fun r=>some (x::r))
 | _=>none
theorem Sq:∀ {cs:List AV}{l:List Nat},aI cs=some l→cs=us l∧Bl l
 | [],l,h=>by
  injection h with h
  subst h
  exact⟨rfl,fun x hx=>by cases hx⟩
 | v::cs,l,h=>by
  unfold aI at h
  split at h
  ·rename_i e;cases e
  ·rename_i x l' e
   injection e with e1 e2
   subst e1;subst e2
   obtain⟨h1,h2⟩:=AB h
   simp only[nk]at h2
   obtain⟨r,h3,h4⟩:=h2
   injection h4 with h4
   subst h4
   obtain⟨h5,h6⟩:=Sq h3
   refine⟨by rw[h5];rfl,fun y hy=>?_⟩
   rcases List.mem_cons.1 hy with rfl | hy
   ·simpa[oL]using h1
   ·exact h6 y hy
  ·cases h
def LJ(s:AD):AV→Option (List Nat)
 | .slice none n (some c)=>AJ (Nat.beq n 0 && Nat.beq c 0) (some [])
 | .slice (some (i,o)) n cap=>AJ (Nat.blt i s.next) <| (rowAt s i).bind fun r=>AJ (Nat.ble (o+n) r.n && (match cap with | some c=>Nat.ble n c | none=>Nat.beq r.sz 1)) <| (r.c.take o n).bind aI
 | _=>none
theorem Z9{s:AD}{i:Nat}{r:DN}(h:s.heap.get i=some (.row r)):(frz s.next s.heap).heap.get i=some (.row { r with mode:=.ro,par:=none }):=by
 unfold frz
 simp only[AS.get_mapO,h]
 rfl
theorem GU       {s : AD}  {v : AV} {l : List Nat} (h : LJ    s v = some l) : Cv  (frz s.next s.heap) v l ∧ Bl  l := by
  unfold LJ at h
  split at h
  · obtain⟨h1,h2⟩:=AB h
    simp only[Bool.and_eq_true]at h1
    injection h2 with h2
    subst h2
    have e1:=oE h1.1
    have e2:=oE h1.2
    subst e1;subst e2
    exact⟨⟨none,some 0,rfl,.inl ⟨0,rfl,nl _,fun _=>rfl⟩,AZ.nil⟩,fun x hx=>by cases hx⟩
  · rename_i i o n cap
    obtain⟨h1,h2⟩:=AB h
    simp only[nk]at h2
    obtain⟨r,h3,h4⟩:=h2
    obtain⟨h5,h6⟩:=AB h4
    simp only[nk]at h6
    obtain⟨cs,h7,h8⟩:=h6
    obtain⟨rfl,hsm⟩:=Sq h8
    simp only[Bool.and_eq_true]at h5
    have hle:o+n≤r.n:=by simpa[oA]using h5.1
    have hlt:i<s.next:=by simpa[oL]using h1
    have hlen:l.length=n:=by have:=AS.take_length h7;rw[Cl]at this;exact this
    have hg:=Z9 (BH h3)
    refine⟨⟨some (i,o),cap,by rw[hlen],?_,fun k u hk=>⟨i,o,rfl,hlt,?_⟩⟩,hsm⟩
    · rw[hlen]
      cases cap with
      | some c=>exact .inl ⟨c,rfl,by simpa[oA]using h5.2,fun e=>by cases e⟩
      | none=>exact .inr ⟨rfl,i,o,_,rfl,hlt,hg,oE h5.2,hle⟩
    · have hkn:k<n:=by
        rw[← hlen,← Cl]
        rcases nm k (us l).length with h' | h'
        · exact h'
        · rw[oF h']at hk;cases hk
      have:=AS.take_get h7 k hkn
      unfold CW rowAt
      rw[hg]
      simp only[Option.bind_some,AJ,show Nat.blt (o+k) r.n=true from by simp[oL];omega,cond_true]
      rw[this];exact hk
  · cases h
def LK(s:AD):AV→Option Rat
 | .agg [.bool neg,m,d]=>(LJ s m).bind fun lm=>(LJ s d).bind fun ld=>AJ (Nat.ble lm.length 1000 && Nat.ble ld.length 1000) (some (NU neg (AG lm) (AG ld)))
 | _=>none
theorem GV{s:AD}{v:AV}{q:Rat}(h:LK s v=some q):QI (frz s.next s.heap) v q 1000:=by
 unfold LK at h
 split at h
 ·rename_i neg m d
  simp only[nk]at h
  obtain⟨lm,h1,ld,h2,h3⟩:=h
  obtain⟨h4,h5⟩:=AB h3
  injection h5 with h5
  simp only[Bool.and_eq_true,oA]at h4
  obtain⟨q1,q2⟩:=GU h1
  obtain⟨q3,q4⟩:=GU h2
  exact⟨neg,m,d,lm,ld,rfl,q1,q3,q2,q4,h4.1,h4.2,h5⟩
 ·cases h
def NG:Nat→Nat→List Nat
 | 0,_=>[]
 | f+1,n=>bif Nat.beq n 0 then []else n % LB::NG f (n / LB)
theorem Jq:∀ (f n:Nat),n<LB ^ f→NG f n=AR n
 | 0,n,h=>by
  have:n=0:=by simpa using h
  rw[this,BM];rfl
 | f+1,n,h=>by
  unfold NG
  by_cases h0:n=0
  ·subst h0;rw[BM];rfl
  ·rw[show Nat.beq n 0=false from Dx h0,cond_false,EW h0,Jq f (n / LB) (by rw[oz BF];rwa[pE]at h)]
def Tu(s:AD)(q:Rat):Option (AV×AD):=
 AJ (Nat.blt q.num.natAbs (LB ^ 8) && Nat.blt q.den (LB ^ 8)) (some (.agg [.bool (Lg q.num 0),(HX s (NG 8 q.num.natAbs)).1,(HX (HX s (NG 8 q.num.natAbs)).2 (NG 8 q.den)).1],(HX (HX s (NG 8 q.num.natAbs)).2 (NG 8 q.den)).2))
theorem NR.slotV{b:Nat}{s:AD}{v:AV}{l:List Nat}(h:NR b s v l)(h0:l=[]→v=.slice none 0 (some 0)):J2 b s v l:=by
 by_cases hl:l=[]
 ·exact .inl ⟨hl,h0 hl⟩
 ·refine .inr ⟨hl,?_⟩
  have h1:=h
  obtain⟨O,_,_,q3,q4⟩:=h
  obtain⟨i,rfl,hi,r,hg,hh,hm,hsz,_⟩:=q4 hl
  obtain⟨r',hg',hel⟩:=h1.u32 hl (j:=i) rfl
  rw[hg]at hg'
  injection hg' with hg'
  injection hg' with hg'
  subst hg'
  exact⟨i,rfl,q3 i rfl,r,hg,hh,hm,hsz,hel⟩
theorem J2.obj{b:Nat}{s:AD}{v:AV}{l:List Nat}(h:J2 b s v l){i:Nat}(hi:Cd v=some i):∃o,s.heap.get i=some o∧wr o=true∧b≤i:=by
 rcases h with⟨_,rfl⟩ | ⟨_,j,rfl,hb,r,hg,_,hm,_⟩
 ·cases hi
 ·injection hi with hi
  subst hi
  exact⟨_,hg,hm,hb⟩
section
variable{ρ:BA}{s:AD}{w:World}
theorem Sk{f:FuncId}{xs:List AV}{xs':Array Value}(h:BE Tryz.prog ρ s w)(hf:Ax ρ s)(hxs:AP ρ xs xs'.toList){K:AV→AD→Prop}(hw:WF (lr Tryz.prog) f xs K (frz s.next s.heap)){Q:Ending→World→Prop}
  (hQ:∀v0 s0 ρ' v' w',K v0 s0→AW ρ' v0 v'→BE Tryz.prog ρ' s0 w'→BE Tryz.prog ρ s w'→Fr ρ s w ρ s w'→(∀i o rb,s0.heap.get i=some o→wr o=true→ρ' i=some rb→w.heap.size≤rb.b)→Q (.returned v') w'):
  (∃fn c,Tryz.prog.funcs[f]? = some fn∧fn.body=some c)∧CallsIn Fence.wide 0 Tryz.prog f xs' w Q:=by
 obtain⟨n,p,hrun,hK⟩:=hw
 have hcall:=(mR NT (HR Kw) rfl (YM Tryz.prog) n).call ρ (frz s.next s.heap) w f xs p.1 p.2 xs' hrun (h.frz _) hf.frz hxs
 refine⟨hcall.1,CallsIn.mono hcall.2 ?_⟩
 intro e w' he
 cases e with
 | panicked c=>exact he.elim
 | outgrown=>exact he.elim
 | returned v' =>
  obtain⟨ρ',k1,k2,k3⟩:=he
  obtain⟨g1,g2⟩:=h.grown (w1:=w') ⟨k3.os,k3.tape,k3.output,k3.size,fun b hb _=>k3.keep b hb (Im Tryz.prog _ _ b)⟩
  refine hQ p.1 p.2 ρ' v' w' hK k1 k2 g1 g2 fun i o rb hi hwr hr=>?_
  rcases k3.own rb.b ⟨i,o,rb,hi,hwr,hr,rfl⟩with h' | h'
  ·exact absurd h' (Im Tryz.prog _ _ _)
  ·exact h'
theorem IF{f:FuncId}{xs:List AV}{xs':Array Value}(h:BE Tryz.prog ρ s w)(hf:Ax ρ s)(hxs:AP ρ xs xs'.toList){q:Rat}(hw:WF (lr Tryz.prog) f xs (fun v s'=>QR s.next s' v q) (frz s.next s.heap)){v:AV}{s1:AD}(hp:Tu s q=some (v,s1)):
    (∃fn c,Tryz.prog.funcs[f]? = some fn∧fn.body=some c)∧CallsIn Fence.wide 0 Tryz.prog f xs' w (E2 Tryz.prog ρ s w v s1):=by
  refine Sk h hf hxs hw fun v0 s0 ρ' v' w' hK hv hi hs hfr hge=>?_
  obtain⟨g1,g2⟩:=AB hp
  simp only[Bool.and_eq_true,oL]at g1
  rw[Jq 8 _ g1.1,Jq 8 _ g1.2]at g2
  injection g2 with g2
  injection g2 with e1 e2
  obtain⟨m,d,rfl,hm,hd,hdj,hz⟩:=hK
  have sm:J2 s.next s0 m (AR q.num.natAbs):=hm.slotV fun e=>hz (by
    rcases ow q.num.natAbs with h' | h'
    · omega
    · exact absurd e (Cg (by omega)))
  have sd:J2 s.next s0 d (AR q.den):=hd.slotV fun e=>absurd e (Cg q.den_nz)
  cases hv with
  | agg hv =>
  rename_i cs'
  obtain⟨lc⟩:=cs'
  cases hv with
  | cons hb hv =>
  cases hv with
  | cons hvm hv =>
  cases hv with
  | cons hvd hv =>
  cases hv
  obtain⟨ρ1,a1,a2,a3,a4,a5,a6⟩:=LF (w0:=w) sm hi hvm (fun i o rb _ hio hwo hr=>hge i o rb hio hwo hr) hs (hf.step hfr) hfr (fun i rb hsl hr j oj rj hj hrj=>by
    obtain⟨o,hg,hwo,_⟩:=sm.obj hsl
    have h1:=hge i o rb hg hwo hr
    have h2:=h.lt j rj hrj
    omega)
  obtain⟨ρ2,b1,b2,b3,b4,b5,_⟩:=LF (w0:=w) sd hi hvd (fun i o rb _ hio hwo hr=>hge i o rb hio hwo hr) a1 a2 a3 (fun i rb hsl hr j oj rj hj hrj=>by
    obtain⟨o,hg,hwo,_⟩:=sd.obj hsl
    rcases a6 j oj rj hj hrj with⟨o1,_,h2⟩ | ⟨i2,rb2,hs2,hr2,e⟩
    · have h1 := hge i o rb hg hwo hr
      have h3:=h.lt j rj h2
      omega
    · obtain⟨o2,hg2,hwo2,_⟩:=sm.obj hs2
      intro hbb
      have hne:i≠i2:=fun e=>by subst e;exact hdj i hs2 hsl
      have:=(hi.sep i i2 o o2 rb rb2 hne hg hg2 hr hr2 (by rw[← hbb,e]) hwo2).2
      rw[hwo]at this
      cases this)
  subst e1;subst e2
  refine⟨ρ2,.agg (.cons ?_ (.cons (a5.mono b4) (.cons b5 .nil))),b1,b3⟩
  rw[Ca]
  exact EV rfl hb
end
def ge(s:AD):List AV→Option (AV×AD)
 | [x,y]=>(LK s x).bind fun a=>(LK s y).bind fun b=>Tu s (a+b)
 | _=>none
def gg(s:AD):List AV→Option (AV×AD)
 | [x,y]=>(LK s x).bind fun a=>(LK s y).bind fun b=>Tu s (a * b)
 | _=>none
def YG(s:AD):List AV→Option (AV×AD)
 | [x]=>(LK s x).bind fun a=>Tu s a
 | _=>none
def gh(s:AD):List AV→Option (AV×AD)
 | [.agg [.bool neg,m],d]=>(LJ s m).bind fun lm=>(LJ s d).bind fun ld=>AJ (Nat.ble lm.length 1000 && Nat.ble ld.length 1000 && Nat.blt 0 (AG ld)) (Tu s (mkRat (B8 neg (AG lm)) (AG ld)))
 | _=>none
def YF(s:AD):List AV→Option (AV×AD)
 | [.int .i64 n]=>bif L4 n 0 || (L4 n 1 || L4 n (-1))then Tu s (n:Rat)else none
 | _=>none
def YH(s:AD):List AV→Option (AV×AD)
 | [v]=>(LJ s v).bind fun l=>AJ (Nat.ble l.length 1000 && Nat.blt 0 (AG l) && Nat.blt (AG l) (LB ^ 8)) (some (HX s (NG 8 (AG l))))
 | _=>none
def jZ:Nu:=fun f xs s =>
 bif Nat.beq f 27 then ge s xs else bif Nat.beq f 29 then gg s xs else bif Nat.beq f 69 then YG s xs else
 bif Nat.beq f 70 then gh s xs else bif Nat.beq f 52 then YF s xs else bif Nat.beq f 92 then YH s xs else none
section
variable{ρ:BA}{s:AD}{w:World}
theorem aQ{f:FuncId}{xs:List AV}{xs':Array Value}(h:BE Tryz.prog ρ s w)(hf:Ax ρ s)(hxs:AP ρ xs xs'.toList){l:List Nat}(hl:l≠[])(hw:WF (lr Tryz.prog) f xs (fun v s'=>NR s.next s' v l) (frz s.next s.heap)):
  (∃fn c,Tryz.prog.funcs[f]? = some fn∧fn.body=some c)∧CallsIn Fence.wide 0 Tryz.prog f xs' w (E2 Tryz.prog ρ s w (HX s l).1 (HX s l).2):=by
 refine Sk h hf hxs hw fun v0 s0 ρ' v' w' hK hv hi hs hfr hge=>?_
 have sm:J2 s.next s0 v0 l:=hK.slotV fun e=>absurd e hl
 obtain⟨ρ1,a1,a2,a3,a4,a5,a6⟩:=LF (w0:=w) sm hi hv (fun i o rb _ hio hwo hr=>hge i o rb hio hwo hr) hs (hf.step hfr) hfr (fun i rb hsl hr j oj rj hj hrj=>by
  obtain⟨o,hg,hwo,_⟩:=sm.obj hsl
  have h1:=hge i o rb hg hwo hr
  have h2:=h.lt j rj hrj
  omega)
 exact⟨ρ1,a5,a1,a3⟩
theorem aK      : D9     Tryz.prog jZ   := by
  intro ρ s w f xs v s1 xs' hc h hf ha
  unfold jZ at hc
  have nx:(frz s.next s.heap).next=s.next:=rfl
  cases h1:Nat.beq f 27 with
  | true =>
    rw[h1]at hc
    have:=oE h1
    subst this
    rw[cond_true]at hc
    unfold ge at hc
    split at hc
    · simp only[nk]at hc
      obtain⟨a,ha',b,hb',hp⟩:=hc
      exact IF h hf ha (IG L8 (GV ha') (GV hb') (by decide) (by decide) (by decide) fun s' v _ hv=>hv) hp
    · cases hc
  | false =>
  rw[h1,cond_false]at hc
  cases h2:Nat.beq f 29 with
  | true =>
    rw[h2]at hc
    have:=oE h2
    subst this
    rw[cond_true]at hc
    unfold gg at hc
    split at hc
    · simp only[nk]at hc
      obtain⟨a,ha',b,hb',hp⟩:=hc
      exact IF h hf ha (IH L8 (GV ha') (GV hb') (by decide) (by decide) (by decide) fun s' v _ hv=>hv) hp
    · cases hc
  | false =>
  rw[h2,cond_false]at hc
  cases h3:Nat.beq f 69 with
  | true =>
    rw[h3]at hc
    have:=oE h3
    subst this
    rw[cond_true]at hc
    unfold YG at hc
    split at hc
    · simp only[nk]at hc
      obtain⟨a,ha',hp⟩:=hc
      exact IF h hf ha (GT L8 (GV ha') (by decide) fun s' v _ hv=>hv) hp
    · cases hc
  | false =>
  rw[h3,cond_false]at hc
  cases h4:Nat.beq f 70 with
  | true =>
    rw[h4]at hc
    have:=oE h4
    subst this
    rw[cond_true]at hc
    unfold gh at hc
    split at hc
    · simp only[nk]at hc
      obtain⟨lm,hm,ld,hd,hp⟩:=hc
      obtain⟨hg,hp⟩:=AB hp
      simp only[Bool.and_eq_true,oA,oL]at hg
      obtain⟨⟨g1,g2⟩,g3⟩:=hg
      obtain⟨m1,m2⟩:=GU hm
      obtain⟨d1,d2⟩:=GU hd
      exact IF h hf ha (Er L8 (kn:=1000) ⟨_,_,lm,rfl,m1,m2,g1,rfl⟩ d1 (by decide) (by omega) d2 (by omega) fun s' v _ hv=>hv) hp
    · cases hc
  | false =>
  rw[h4,cond_false]at hc
  cases h5:Nat.beq f 52 with
  | true =>
    rw[h5]at hc
    have:=oE h5
    subst this
    rw[cond_true]at hc
    unfold YF at hc
    split at hc
    · rename_i n
      cases hn:L4 n 0 || (L4 n 1 || L4 n (-1))with
      | false=>rw[hn]at hc;cases hc
      | true =>
        rw[hn,cond_true]at hc
        simp only[Bool.or_eq_true,Ek,beq_iff_eq]at hn
        exact IF h hf ha (FL L8 hn fun s' v _ hv=>hv) hc
    · cases hc
  | false =>
  rw[h5,cond_false]at hc
  cases h6:Nat.beq f 92 with
  | true =>
    rw[h6]at hc
    have:=oE h6
    subst this
    rw[cond_true]at hc
    unfold YH at hc
    split at hc
    · simp only[nk]at hc
      obtain⟨l,hl,hp⟩:=hc
      obtain⟨hg,hp⟩:=AB hp
      simp only[Bool.and_eq_true,oA,oL]at hg
      obtain⟨⟨g1,g2⟩,g3⟩:=hg
      obtain⟨l1,l2⟩:=GU hl
      rw[Jq 8 _ g3]at hp
      injection hp with hp
      have e1:(HX s (AR (AG l))).1=v:=by rw[hp]
      have e2:(HX s (AR (AG l))).2=s1:=by rw[hp]
      rw[← e1,← e2]
      refine aQ h hf ha (Cg (by omega)) (CT L8 l1 (by omega) fun s' v' _ hv=>?_)
      rw[Bq l2]at hv
      exact hv
    · cases hc
  | false =>
    rw[h6]at hc
    cases hc
end
end
end Go.Proofs.YtjnkfbpadpmakaaGreatDoor.Am
set_option linter.unusedVariables false
set_option linter.unusedSimpArgs false
namespace Go.Proofs.YtjnkfbpadpmakaaGreatDoor.Am
open Go Go.Proofs Go.RowKit
noncomputable section
theorem Yw(m:Nat):AnyZI.SortsIn Tryz.prog GM Fence.wide m:=
  ⟨fun blk off cap ss W hH hblk hsz=>callsIn_wide.2 (AnyM.slices_Sort_int Oj blk off cap ss W hH hblk hsz),
   fun p cap W=>callsIn_wide.2 (AnyM.slices_Sort_int_none Oj p cap W)⟩
theorem aZ:R4 Tryz.prog 78 121 3 3:=by
  refine⟨fun Bm b nn D0 w hBm hm hown hsz=>?_,fun Bm w hBm hm=>?_⟩
  · have hseq := AnyZI.keys_gives (ρ := Fd)           { Oi       with } Fence.wide 2 trivial rfl (by omega) Bm b nn D0 w hBm hm hown
    have cS:=AnyZI.sorted_in Kf Fence.wide 5 trivial trivial trivial trivial rfl (by omega) (Yw _) (enters_of Tryz.func120 (by kernel_rfl) rfl) 121 #[.pointer (some ⟨Bm,0,none⟩)] trivial (enters_of Tryz.func121 (by kernel_rfl) rfl) _ _ (ny hsz (by unfold maxLen;omega)) (by omega) _ hseq
    exact callsIn_wide.1 cS
  · have hseq := AnyZI.keys_gives_nil (ρ := Fd)           { Oi       with } Fence.wide 2 trivial rfl Bm w hBm hm
    have cS:=AnyZI.sorted_in Kf Fence.wide 5 trivial trivial trivial trivial rfl (by omega) (Yw _) (enters_of Tryz.func120 (by kernel_rfl) rfl) 121 #[.pointer (some ⟨Bm,0,none⟩)] trivial (enters_of Tryz.func121 (by kernel_rfl) rfl) _ 0 (oB _) (by omega) _ hseq
    refine(callsIn_wide.1 cS).mono ?_
    rintro e w' ⟨v,ss,rfl,hS,_,hnil,hb⟩
    rw[hnil.2 hS]
    exact⟨rfl,hb⟩
def Q8:Nu:=fun f xs s=>bif Nat.beq f 78 then FQ 121 3 3 s xs else none
theorem Su:D9 Tryz.prog Q8:=by
 intro ρ s w f xs v s1 xs' hc hi hf ha
 unfold Q8 at hc
 cases h2:Nat.beq f 78 with
 | true =>
  rw[h2]at hc
  have:=oE h2
  subst this
  exact⟨⟨_,_,Tryz.func78,rfl⟩,PY (by kernel_rfl) Tryz.underlying3 aZ hi hf hc ha⟩
 | false=>rw[h2]at hc;cases hc
def ja:Nu:=fun f xs s=>match Q8 f xs s with
 | some p=>some p
 | none=>jZ f xs s
theorem aL:D9 Tryz.prog ja:=by
 intro ρ s w f xs v s1 xs' hc hi hf ha
 unfold ja at hc
 cases h:Q8 f xs s with
 | some p=>rw[h]at hc;injection hc with hc;subst hc;exact Su ρ s w f xs v s1 xs' h hi hf ha
 | none=>rw[h]at hc;exact aK ρ s w f xs v s1 xs' hc hi hf ha
def mL:CP:=⟨Tryz.prog,ja⟩
end
end Go.Proofs.YtjnkfbpadpmakaaGreatDoor.Am
set_option linter.unusedVariables false
set_option linter.unusedSimpArgs false
namespace Go.Proofs.YtjnkfbpadpmakaaGreatDoor.Am
open Go
noncomputable section
def Jv(fs:List FuncId)(T:List Row):Nu:=fun f xs s=>bif fs.any (Nat.beq f)then (Sg T f xs).bind fun r=>some (r,s)else none
theorem Q9         {P : Program} (hm : P.follows .mixedOrders = true) (hng : EL      P) {E : CP}  (hE : E.P = P) (hnat : D9     P E.nat) {n : Nat} {fs : List FuncId} {T : List Row}
    (hT:∀r∈T,Il r.args=true∧L6 r.res=true∧gu r.res ((Dr E n).call r.f r.args ⟨0,.leaf⟩)=true):D9 P (Jv fs T):=by
  intro ρ s w f xs v s1 as' hc h hf ha
  unfold Jv at hc
  cases hfs:fs.any (Nat.beq f)with
  | false=>rw[hfs]at hc;cases hc
  | true =>
    rw[hfs]at hc
    simp only[cond_true,nk]at hc
    obtain⟨u,hu,hc⟩:=hc
    injection hc with hc
    injection hc with e1 e2
    subst e1;subst e2
    obtain⟨r,hr,rfl,rfl,rfl⟩:=KZ hu
    obtain⟨p1,p2,p3⟩:=hT r hr
    cases hrun:(Dr E n).call r.f r.args ⟨0,.leaf⟩with
    | none=>rw[hrun]at p3;cases p3
    | some p =>
      obtain⟨v0,s2⟩:=p
      rw[hrun]at p3
      have hv0:r.res=v0:=KR (show Et r.res v0=true from p3)
      subst hv0
      let ρ0:BA:=fun _=>none
      have hinv:BE P ρ0 ⟨0,.leaf⟩ w:=
        ⟨fun i o x hi hx=>(by cases hx),fun i x hx=>(by cases hx),fun i j oi oj ri rj hne hi hj hri hrj=>(by cases hri),fun i o g' hi _=>(by cases (show(AS.leaf:AS A8).get i=some o from hi))⟩
      have hfr:Ax ρ0 ⟨0,.leaf⟩:=fun i hi=>⟨rfl,rfl⟩
      have hcall:=(mR hm hng hE hnat n).call ρ0 ⟨0,.leaf⟩ w r.f r.args r.res s2 as' hrun hinv hfr (HM p1 ha)
      refine⟨hcall.1,CallsIn.mono hcall.2 ?_⟩
      intro e w' he
      cases e with
      | panicked c=>exact he.elim
      | outgrown=>exact he.elim
      | returned v' =>
        obtain⟨ρ',k1,k2,k3⟩:=he
        have hno:∀b,¬ Fs ρ0 (⟨0,.leaf⟩:AD) b:=by
          rintro b ⟨i,o,x,hi,hw,hx,_⟩
          cases hx
        obtain⟨g1,g2⟩:=h.grown (w1:=w') ⟨k3.os,k3.tape,k3.output,k3.size,fun b hb' _=>k3.keep b hb' (hno b)⟩
        exact⟨ρ,EV p2 k1,g1,g2⟩
end
end Go.Proofs.YtjnkfbpadpmakaaGreatDoor.Am
