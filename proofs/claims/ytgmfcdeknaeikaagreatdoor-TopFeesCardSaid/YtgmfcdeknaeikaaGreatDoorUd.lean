/-
Folding expressions; equal ones; what is always true.
Conditions: none.
-/
import Derived.Test.YtgmfcdeknaeikaaGreatDoorUc
set_option linter.unusedSimpArgs false
set_option linter.unusedVariables false
namespace Go.Proofs.YtgmfcdeknaeikaaGreatDoor
open Go.Vm
set_option maxHeartbeats 4000000
set_option maxRecDepth 20000
theorem cR(a b c d:Int):BP Tryz.prog 58 2 [(0,.agg #[.int .i64 a,.string ⟨#[]⟩,.string ⟨#[]⟩,.int .i64 b,.slice none 0 0]),(1,.agg #[.int .i64 c,.string ⟨#[]⟩,.string ⟨#[]⟩,.int .i64 d,.slice none 0 0])]=some (60,#[.int .i64 a,.string ⟨#[]⟩,.string ⟨#[]⟩,.int .i64 b,.slice none 0 0,.int .i64 c,.string ⟨#[]⟩,.string ⟨#[]⟩,.int .i64 d,.slice none 0 0]):=by kernel_rfl
theorem re(sb:Nat)(a b:Int):ExR [(sb,.cells #[.int .i64 1,.string ⟨#[]⟩,.string ⟨#[]⟩,.int .i64 a,.slice none 0 0,.int .i64 1,.string ⟨#[]⟩,.string ⟨#[]⟩,.int .i64 b,.slice none 0 0] 60)] (.mk 8 eB eB 0 [Tu a,Tu b]) ⟨8,eB,eB,0,some ⟨sb,0,none⟩,2,2⟩:=by
 refine ExR.mk (rs:=[⟨1,eB,eB,a,none,0,0⟩,⟨1,eB,eB,b,none,0,0⟩]) (by simp) (by simp) rfl (.inr ⟨sb,0,_,60,(0,0),rfl,(by unfold Vm.AA;exact if_pos rfl),fun i x hi=> ?_⟩) fun k x r hx hr=> ?_
 ·match i,hi with
  |0,hi=>cases hi;rfl
  |1,hi=>cases hi;rfl
  |i+2,hi=>simp at hi
 ·match k,hx,hr with
  |0,hx,hr=>cases hx;cases hr;exact ExR.leaf _ _ _ _ _ _ _
  |1,hx,hr=>cases hx;cases hr;exact ExR.leaf _ _ _ _ _ _ _
  |k+2,hx,hr=>simp at hx
def pA(A:AH)(t:Xs)(u:Value)(D:AH):Prop:= ∃v B,u=v∧(∃r,v=Bt r∧ExR B t r)∧Dis B A∧SubA (B++A) D
theorem gc(A:AH)(v:Ft)(hv:Bc v.n=true):AK Tryz.prog 153 #[.agg #[.string v.nm,.int .i64 v.k,.int .i64 v.n,.string v.tx]] A (fun u_ A_=>pA A (Sb v) u_ A_):=by
 refine AC ⟨Tryz.prog,153,Tryz.f153,26,[0,1,2,3,4,6],⟨[],none⟩,[],_⟩ rfl (args:=[_]) Tryz.func153 rfl (by kernel_rfl) Tryz.ntmps153 (by simp) (by kernel_rfl) ?_
 intro ν fr;have nuE:=fr.nu
 have f0:=fr.2 0
 have f1:=fr.2 1
 have n01:(ν 1=ν 0)=False:=by simp[nuE]
 have s2: ∀o o1,SubA A ((ν 1,o)::(ν 0,o1)::A):=fun _ _=>SubA.skip f1 (SubA.skip f0 (SubA.refl _))
 have w2:IntKind.i64.wrap (2 - v.n)=2 - v.n:=by rw[MA]at hv;rw[AW (by omega) (by omega)]
 by_cases h1:v.k=1
 ·simp only[AF,↓AE,simprocAttr,nuE,h1]
  exact⟨_,[],rfl,⟨⟨1,eB,eB,v.n,none,0,0⟩,rfl,by unfold Sb;rw[if_pos h1];exact ExR.leaf _ _ _ _ _ _ _⟩,Dis.nil _,s2 _ _⟩
 by_cases h2:v.k=2
 ·simp only[AF,↓AE,simprocAttr,nuE,h2]
  exact⟨_,[],rfl,⟨⟨2,eB,v.tx,0,none,0,0⟩,rfl,by unfold Sb;rw[if_neg h1,if_pos h2];exact ExR.leaf _ _ _ _ _ _ _⟩,Dis.nil _,s2 _ _⟩
 simp only[AF,↓AE,simprocAttr,nuE,eq_false h1,eq_false h2,w2,cR]
 exact⟨_,[(ν 4,_)],rfl,⟨⟨8,eB,eB,0,some ⟨ν 4,0,none⟩,2,2⟩,rfl,by unfold Sb;rw[if_neg h1,if_neg h2];exact re _ _ _⟩,Dis.one (fr.2 4),SubA.app (B:=[_]) (SubA.skip (fr.2 3) (SubA.skip (fr.2 2) (SubA.skip f1 (SubA.skip f0 (SubA.refl _)))))⟩
theorem UG: ∀l:List Xs,qG l=l.map OY
 | []=>by simp[qG]
 |x::l=>by simp[qG,UG l]
theorem P2(T:List Gm):(Lib.compact T).length=0↔T=[]:=by
 constructor
 ·intro h
  cases T with
  |nil=>rfl
  | cons x l=>
   exfalso
   unfold Lib.compact Lib.compactUpTo at h
   rw[List.length_map]at h
   have h2:=List.eq_nil_of_length_eq_zero h
   have:(0:Nat)∈(List.range (x::l).length).filter (Lib.keeps (x::l).toArray):=by
    rw[List.mem_filter]
    exact⟨by simp,Lib.keeps_lt_one _ 0 (by omega)⟩
   rw[h2]at this
   cases this
 ·rintro rfl
  rfl
theorem jE(t:Xs):(YL t).length=0↔(FC t).isEmpty=true:=by
 rw[YL,P2]
 have h1:(KT (JF t)).length=(FC t).length:=by simp[KT,JF]
 constructor
 ·intro h
  rw[h]at h1
  rw[List.isEmpty_iff]
  exact List.eq_nil_of_length_eq_zero h1.symm
 ·intro h
  rw[List.isEmpty_iff]at h
  rw[h]at h1
  exact List.eq_nil_of_length_eq_zero h1
theorem gM{fs:List Ft}(hfs: ∀f∈fs,Ei f=true)(t:Xs)(ho:HX t=true):Bc (Fr fs t).2.n=true:=by
 unfold Fr
 split
 ·cases h:EQ fs t with
  |none=>rfl
  |some v=>exact PV hfs t ho v h
 ·rfl
theorem gT(A:AH)(op n:Int)(nm tx:ByteArray)(args:List Xs)(p:Option Addr)(cap:Nat)(rs:List Xr)(hE:ExR A (.mk op nm tx n args) ⟨op,nm,tx,n,p,args.length,cap⟩)(hz:SzT (.mk op nm tx n args))(hfo:HX (.mk op nm tx n args)=true)(hcnt:(JF (.mk op nm tx n args)).length≤1000000)(hl:args.length≤1000000)(hrs:rs.length=args.length)(hS:B5 Ba 5 A p rs)(ih: ∀(k:Nat) (x:Xs) (r:Xr),args[k]? =some x→rs[k]? =some r→AK Tryz.prog 126 #[Bt r] A (pA A (OY x))):AK Tryz.prog 126 #[.agg #[.int .i64 op,.string nm,.string tx,.int .i64 n,.slice p args.length cap]] A (fun u_ A_=>pA A (OY (.mk op nm tx n args)) u_ A_):=by
 refine AC ⟨Tryz.prog,126,Tryz.f126,39,[0,1,2,3,4,5,7,24,25,26],⟨[126,66,153],none⟩,[],_⟩ rfl (args:=[_]) Tryz.func126 rfl (by kernel_rfl) Tryz.ntmps126 (by simp) (by kernel_rfl) ?_
 intro ν fr;have nuE:=fr.nu
 have f0:=fr.2 0
 have f1:=fr.2 1
 have n01:(ν 1=ν 0)=False:=by simp[nuE]
 simp only[AF,↓AE,simprocAttr,nuE]
 have dst_:((ν 0=ν 1)=False)∧((ν 1=ν 0)=False):=(by simp[nuE]);generalize ν 0=n1 at dst_  f0 f1 n01 ⊢;generalize ν 1=n2 at dst_  f0 f1 n01⊢
 clear nuE fr
 refine AK.newX (UE A _ ⟨op,nm,tx,n,p,args.length,cap⟩ hE hcnt) (SubA.skip f1 (SubA.skip f0 (SubA.refl _))) ?_
 rintro v B hoN dN
 obtain⟨pN,capN,rfl,_⟩:=hoN.slice
 refine⟨_,dN.right, ?_⟩
 clear dN
 have hemp:(YL (.mk op nm tx n args)).length=0↔(FC (.mk op nm tx n args)).isEmpty=true:=jE _
 have ev: ∀(B:AH),SubA A B→Ag Tryz.prog 95 #[.agg #[.int .i64 op,.string nm,.string tx,.int .i64 n,.slice p args.length cap],.slice none 0 0,.nilIface] B=some (.tuple #[.agg #[.string (Fr [] (.mk op nm tx n args)).2.nm,.int .i64 (Fr [] (.mk op nm tx n args)).2.k,.int .i64 (Fr [] (.mk op nm tx n args)).2.n,.string (Fr [] (.mk op nm tx n args)).2.tx],.int .i64 (Fr [] (.mk op nm tx n args)).1]):=fun B hB=>Za A _ ⟨op,nm,tx,n,p,args.length,cap⟩ hE hz [] none 0 (.inl rfl) (by simp) rfl (fun f hf=>by simp at hf) B hB
 obtain⟨T,hT⟩: ∃T:Xs,T=.mk op nm tx n args:=⟨_,rfl⟩
 rw[←hT]at hemp ev⊢
 have hevn:Bc (Fr [] T).2.n=true:=by rw[hT];exact gM (fun f hf=>by simp at hf) _ hfo
 have hfl: ¬((FC T).isEmpty=true∧(Fr [] T).1=0)→OY T=.mk op nm tx n (args.map OY):=fun h=>by
  rw[hT]at h⊢
  rw[OY,if_neg (by simpa using h),UG]
 have hcs:((FC T).isEmpty=true∧(Fr [] T).1=0)∨((FC T).isEmpty=true∧(Fr [] T).1≠0)∨ ¬(FC T).isEmpty=true:=by
  by_cases h1:(FC T).isEmpty=true
  ·by_cases h2:(Fr [] T).1=0
   ·exact .inl ⟨h1,h2⟩
   ·exact .inr (.inl ⟨h1,h2⟩)
  ·exact .inr (.inr h1)
 rcases hcs with⟨h1,h2⟩|⟨h1,h2⟩|h1
 ·have hl0:=hemp.2 h1
  have hl0':(((YL T).length:Int)==0)=true:=by simp[hl0]
  have h2':((Fr [] T).1==0)=true:=by simp[h2]
  intro ν fr;have nuE:=fr.m2 rfl
  have f3:=fr.2 0
  have evv:=fun o1 o2=>ev ((n2,o1)::(n1,o2)::A) (SubA.skip f1 (SubA.skip f0 (SubA.refl _)))
  simp only[AF,↓AE,simprocAttr,nuE,hl0,n01,evv,h2]
  have gA0:Vm.AA A (ν 0)=none:=(show SubA A ((n2,_)::(n1,_)::A) from SubA.skip f1 (SubA.skip f0 (SubA.refl _))).none f3
  have dst_:True:=(by simp[]);generalize ν 0=n3 at dst_  f3 gA0⊢
  clear nuE fr
  refine AK.newX (R:=fun v B=> ∃r,v=Bt r∧ExR B (Sb (Fr [] T).2) r) (gc A (Fr [] T).2 hevn) (SubA.skip gA0 (SubA.skip f1 (SubA.skip f0 (SubA.refl _)))) ?_
  rintro v B2 ⟨r,rfl,hr⟩ dB2
  have dBA:Dis B2 A:=Dis.subr dB2 (SubA.skip gA0 (SubA.skip f1 (SubA.skip f0 (SubA.refl _))))
  have b2:Vm.AA B2 n2=none:=dB2 n2 (by by_cases h:n3=n2<;>simp[Vm.AA,h])
  refine⟨(n2,.cells #[.int .i64 0,.string ⟨#[]⟩,.string ⟨#[]⟩,.int .i64 0,.slice none 0 0] 60)::(B2++A),SubA.both (X:=[(n2,_)]) (SubA.trans (SubA.trans (SubA.left [(n2,_)] _) (SubA.skip f3 (SubA.refl _))) dB2.right) (SubA.both (SubA.left _ _) (SubA.trans (SubA.skip gA0 (SubA.skip f1 (SubA.skip f0 (SubA.refl _)))) dB2.right)), ?_⟩
  simp only[Bt,Ba]
  intro ν fr
  simp only[AF,↓AE,simprocAttr]
  refine⟨_,B2,rfl,⟨r,rfl, ?_⟩,dBA,SubA.skip (AD b2 f1) (SubA.refl _)⟩
  have:OY T=Sb (Fr [] T).2:=by rw[hT]at h1 h2 ⊢;rw[OY,if_pos (by simp[h1,h2])]
  rw[this]
  exact hr
 have hl0:=hemp.2 h1
 have hl0':(((YL T).length:Int)==0)=true:=by simp[hl0]
 have h2':((Fr [] T).1==0)=false:=by simp[h2]
 have evv:=fun o1 o2=>ev ((n2,o1)::(n1,o2)::A) (SubA.skip f1 (SubA.skip f0 (SubA.refl _)))
 intro ν fr;have nuE:=fr.m2 rfl
 simp only[AF,↓AE,simprocAttr,nuE,hl0,n01,evv,h2']
 have f5:=fr.2 1
 have f3:=fr.2 0
 have n53:(ν 1=ν 0)=False:=by simp[nuE]
 have dst_:((ν 0=ν 1)=False)∧((ν 1=ν 0)=False):=(by simp[nuE]);generalize ν 0=n3 at dst_  f3 f5 n53 ⊢;generalize ν 1=n5 at dst_  f3 f5 n53⊢
 have g5:Vm.AA A n5=none:=(show SubA A ((n2,_)::(n1,_)::A) from SubA.skip f1 (SubA.skip f0 (SubA.refl _))).none f5
 have g3:Vm.AA A n3=none:=(show SubA A ((n2,_)::(n1,_)::A) from SubA.skip f1 (SubA.skip f0 (SubA.refl _))).none f3
 obtain⟨d51,d15⟩:=AU f5 (show Vm.AA ((n2,_)::(n1,Obj.cells #[.int .i64 op,.string nm,.string tx,.int .i64 n,.slice p args.length cap] 60)::A) n1=some (Obj.cells #[.int .i64 op,.string nm,.string tx,.int .i64 n,.slice p args.length cap] 60) by simp[Vm.AA,n01])
 obtain⟨d52,d25⟩:=AU f5 (show Vm.AA ((n2,Obj.cells #[.int .i64 0,.string ⟨#[]⟩,.string ⟨#[]⟩,.int .i64 0,.slice none 0 0] 60)::_) n2=some (Obj.cells #[.int .i64 0,.string ⟨#[]⟩,.string ⟨#[]⟩,.int .i64 0,.slice none 0 0] 60) by simp[Vm.AA])
 have hfx:=hfl fun h=>h2 h.2
 refine AR.weak (ρ:=[(1,some (.pointer (some ⟨n1,0,none⟩))),(2,some (.pointer (some ⟨n2,0,none⟩))),(5,some (.pointer (some ⟨n5,0,none⟩))),(24,some (.slice p args.length cap)),(25,some (.int .i64 (args.length:Int))),(26,some (.int .i64 0))]) (A:=(n5,.cells #[.int .i64 op,.string nm,.string tx,.int .i64 n,.slice none 0 0] 60)::(n2,.cells #[.int .i64 0,.string ⟨#[]⟩,.string ⟨#[]⟩,.int .i64 0,.slice none 0 0] 60)::(n1,.cells #[.int .i64 op,.string nm,.string tx,.int .i64 n,.slice p args.length cap] 60)::A) ?_ (by simp[Ah,AO]) (SubA.both (X:=[(n5,_)]) (SubA.left [(n5,_)] _) (SubA.skip f5 (SubA.skip f3 (SubA.refl _))))
 rotate_left
 have hl0:((YL T).length:Int)≠0:=fun h=>h1 (hemp.1 (by omega))
 have hl0':(((YL T).length:Int)==0)=false:=by simpa using hl0
 intro ν fr;have nuE:=fr.m2 rfl
 simp only[AF,↓AE,simprocAttr,nuE,hl0',n01]
 have f5:=fr.2 0
 have dst_:True:=(by simp[]);generalize ν 0=n5 at dst_  f5⊢
 have g5:Vm.AA A n5=none:=(show SubA A ((n2,_)::(n1,_)::A) from SubA.skip f1 (SubA.skip f0 (SubA.refl _))).none f5
 obtain⟨d51,d15⟩:=AU f5 (show Vm.AA ((n2,_)::(n1,Obj.cells #[.int .i64 op,.string nm,.string tx,.int .i64 n,.slice p args.length cap] 60)::A) n1=some (Obj.cells #[.int .i64 op,.string nm,.string tx,.int .i64 n,.slice p args.length cap] 60) by simp[Vm.AA,n01])
 obtain⟨d52,d25⟩:=AU f5 (show Vm.AA ((n2,Obj.cells #[.int .i64 0,.string ⟨#[]⟩,.string ⟨#[]⟩,.int .i64 0,.slice none 0 0] 60)::_) n2=some (Obj.cells #[.int .i64 0,.string ⟨#[]⟩,.string ⟨#[]⟩,.int .i64 0,.slice none 0 0] 60) by simp[Vm.AA])
 have hfx:=hfl fun h=>h1 h.1
 refine AR.weak (ρ:=[(1,some (.pointer (some ⟨n1,0,none⟩))),(2,some (.pointer (some ⟨n2,0,none⟩))),(5,some (.pointer (some ⟨n5,0,none⟩))),(24,some (.slice p args.length cap)),(25,some (.int .i64 (args.length:Int))),(26,some (.int .i64 0))]) (A:=(n5,.cells #[.int .i64 op,.string nm,.string tx,.int .i64 n,.slice none 0 0] 60)::(n2,.cells #[.int .i64 0,.string ⟨#[]⟩,.string ⟨#[]⟩,.int .i64 0,.slice none 0 0] 60)::(n1,.cells #[.int .i64 op,.string nm,.string tx,.int .i64 n,.slice p args.length cap] 60)::A) ?_ (by simp[Ah,AO]) (SubA.refl _)
 all_goals
  clear nuE fr
  rw[hfx]
  obtain⟨e,l,v,Bw,C,rs2,he,hdr,hle,hv,hBw,hC,ho,hr2l,hch,dwC,dCA,h1n,h2n,h5n⟩: ∃(e:Nat) (l:List Xs) (v:Value) (Bw C:AH) (rs2:List Xr),e=0∧l=args.drop e∧e≤args.length∧v=.slice none 0 0∧Bw=[]∧C=[]∧BU Ba 5 60 v Bw rs2∧rs2.length=e∧(∀(k:Nat) (x:Xs) (r:Xr),args[k]? =some x→rs2[k]? =some r→ExR C (OY x) r)∧Dis Bw (C++A)∧Dis C A∧Vm.AA (Bw++(C++A)) n1=none∧Vm.AA (Bw++(C++A)) n2=none∧Vm.AA (Bw++(C++A)) n5=none:=⟨0,_,_,[],[],[],rfl,rfl,by omega,rfl,rfl,rfl,BU.nil _ _ _,rfl,fun k x r hx hr=>by simp at hr,Dis.nil _,Dis.nil _,f0,f1,g5⟩
  rw[show(26,some (Value.int .i64 0))=(26,some (Value.int .i64 (e:Int))) by rw[he];rfl]
  refine AR.at (A:=(n5,.cells #[.int .i64 op,.string nm,.string tx,.int .i64 n,v] 60)::(n2,.cells #[.int .i64 0,.string ⟨#[]⟩,.string ⟨#[]⟩,.int .i64 0,.slice none 0 0] 60)::(n1,.cells #[.int .i64 op,.string nm,.string tx,.int .i64 n,.slice p args.length cap] 60)::(Bw++(C++A))) (by rw[hv,hBw,hC];exact SubA.refl _) ?_
  clear he hv hBw hC
  induction l generalizing e v Bw C rs2 with
  | nil=>
   obtain⟨hn1,hn2⟩:=drop_nil hdr hle
   have lt:((e:Int)<(args.length:Int))=False:=eq_false (by omega)
   obtain⟨p',cap',rfl,hc',hS'⟩:=BU.read (f:=Ba) (n:=5) VU ho
   refine AR.intro (by kernel_rfl) ?_
   intro ν fr
   simp only[AF,↓AE,simprocAttr,lt,d52]
   have dWC:Dis Bw C:=Dis.subr dwC (SubA.left C A)
   have hlen:rs2.length=(args.map OY).length:=by simp;omega
   refine⟨_,Bw++C,rfl,⟨⟨op,nm,tx,n,p',rs2.length,cap'⟩,rfl, ?_⟩,Dis.app (Dis.subr dwC dCA.right) dCA, ?_⟩
   ·rw[hlen]at hc'⊢
    refine ExR.mk (rs:=rs2) (by simp;omega) hc' hlen (hS'.mono (SubA.left _ _)) fun k x r hx hr=> ?_
    rw[List.getElem?_map]at hx
    obtain⟨y,hy,rfl⟩:=Option.map_eq_some_iff.1 hx
    exact(hch k y r hy hr).mono dWC.right
   ·rw[List.append_assoc]
    exact SubA.skip h5n (SubA.skip h2n (SubA.skip h1n (SubA.refl _)))
  | cons x l ihl=>
   obtain⟨ha,hlt,hd',htk⟩:=Be hdr
   have lt:((e:Int)<(args.length:Int))=True:=eq_true (by omega)
   have li:((e:Int)<0)=False:=eq_false (by omega)
   have we:IntKind.i64.wrap ((e:Int)+1)=((e+1:Nat):Int):=by rw[AW (by omega) (by omega)];omega
   obtain⟨s,hs⟩: ∃s,rs[e]? =some s:=⟨_,List.getElem?_eq_getElem (by omega)⟩
   obtain⟨bk,off,cs,ty,fr0,hp0,hbk,hcr,hcc⟩:=hS.at hs
   subst hp0
   simp only[Ba]at hcr
   have sAM:SubA A (Bw++(C++A)):=SubA.trans dCA.right dwC.right
   have hbM:=sAM _ _ hbk
   obtain⟨q1,q2⟩:=AU h1n hbM
   obtain⟨q3,q4⟩:=AU h2n hbM
   obtain⟨q5,q6⟩:=AU h5n hbM
   refine AR.intro (by kernel_rfl) ?_
   intro ν fr;have nuE:=fr.m3 rfl
   obtain⟨p',cap',rfl,hc'⟩:=ho.slice
   simp only[AF,↓AE,simprocAttr,lt,hbM,hcr,q1,q3,q5,d52]
   have f7:=fr.2 0
   have sM3: ∀o o1 o2,SubA (Bw++(C++A)) ((n5,o)::(n2,o1)::(n1,o2)::(Bw++(C++A))):=fun _ _ _=>SubA.skip h5n (SubA.skip h2n (SubA.skip h1n (SubA.refl _)))
   have g7:Vm.AA (Bw++(C++A)) (ν 0)=none:=(sM3 _ _ _).none f7
   have d75:(ν 0=n5)=False:=by simp[nuE]
   have d72:(ν 0=n2)=False:=by simp[nuE]
   have d71:(ν 0=n1)=False:=by simp[nuE]
   have dst_:True:=(by simp[]);generalize ν 0=n7 at dst_  f7 g7 d75 d72 d71⊢
   refine Av.plan [(0,0),(1,0),(2,0),(3,0),(4,0),(5,1),(6,0),(7,2)] [(n7,.cells #[.int .i64 s.op,.string s.nm,.string s.tx,.int .i64 s.n,.slice s.p s.len s.cap] 60),(n5,.cells #[.int .i64 op,.string nm,.string tx,.int .i64 n,.slice p' rs2.length cap'] 60)] (SubA.left [_,_] _) (by kernel_rfl) (by kernel_rfl) (by kernel_rfl) (by kernel_rfl) (by kernel_rfl) (by kernel_rfl) ?_
   clear nuE fr
   have d57:(n5=n7)=False:=eq_false fun h=>by rw[h]at d75;simp at d75
   intro ν fr
   simp only[AF,↓AE,simprocAttr,d75]
   clear fr
   have sM4: ∀o o1 o2 o3,SubA (Bw++(C++A)) ((n7,o)::(n5,o1)::(n2,o2)::(n1,o3)::(Bw++(C++A))):=fun _ _ _ _=>SubA.skip g7 (sM3 _ _ _)
   refine AK.newX (R:=fun v B=> ∃r,v=Bt r∧ExR B (OY x) r) (ih e x s ha hs) (SubA.trans sAM (sM4 _ _ _ _)) ?_
   rintro u B3 ⟨r,rfl,hr⟩ dB3
   have dB3M:Dis B3 (Bw++(C++A)):=Dis.subr dB3 (sM4 _ _ _ _)
   have b7:Vm.AA B3 n7=none:=dB3 n7 (by simp[Vm.AA])
   have b5:Vm.AA B3 n5=none:=dB3 n5 (by simp[Vm.AA,d75])
   have b2:Vm.AA B3 n2=none:=dB3 n2 (by simp[Vm.AA,d72,d52])
   have b1:Vm.AA B3 n1=none:=dB3 n1 (by simp[Vm.AA,d71,d51,n01])
   have sW:SubA Bw (Bw++(C++A)):=SubA.left _ _
   have dBW:Dis B3 Bw:=Dis.subr dB3M sW
   have dBC:Dis B3 (C++A):=Dis.subr dB3M dwC.right
   have dW3:Dis Bw (B3++(C++A)):=Dis.appr dBW.symm dwC
   have sMN:SubA (Bw++(C++A)) (Bw++(B3++(C++A))):=SubA.app (dBC.right)
   have N1:Vm.AA (Bw++(B3++(C++A))) n1=none:=AD ((SubA.left Bw _).none h1n) (AD b1 (dwC.right.none h1n))
   have N2:Vm.AA (Bw++(B3++(C++A))) n2=none:=AD ((SubA.left Bw _).none h2n) (AD b2 (dwC.right.none h2n))
   have N5:Vm.AA (Bw++(B3++(C++A))) n5=none:=AD ((SubA.left Bw _).none h5n) (AD b5 (dwC.right.none h5n))
   have N7:Vm.AA (Bw++(B3++(C++A))) n7=none:=AD ((SubA.left Bw _).none g7) (AD b7 (dwC.right.none g7))
   refine⟨(n7,.cells #[.int .i64 s.op,.string s.nm,.string s.tx,.int .i64 s.n,.slice s.p s.len s.cap] 60)::(n5,.cells #[.int .i64 op,.string nm,.string tx,.int .i64 n,.slice p' rs2.length cap'] 60)::(n2,.cells #[.int .i64 0,.string ⟨#[]⟩,.string ⟨#[]⟩,.int .i64 0,.slice none 0 0] 60)::(n1,.cells #[.int .i64 op,.string nm,.string tx,.int .i64 n,.slice (some ⟨bk,off,none⟩) args.length cap] 60)::(Bw++(B3++(C++A))), ?_, ?_⟩
   ·refine SubA.both (X:=[(n7,_),(n5,_),(n2,_),(n1,_)]) (SubA.trans (SubA.left [_,_,_,_] _) dB3.right) (SubA.both (SubA.trans (SubA.trans sW (sM4 _ _ _ _)) dB3.right) (SubA.both (SubA.left _ _) (SubA.trans (SubA.trans dwC.right (sM4 _ _ _ _)) dB3.right)))
   simp only[Bt,Ba]
   intro ν fr;have nuE:=And.intro (fr.mem (b:=n7) (by simp)) (And.intro (fr.mem (b:=n5) (by simp)) (And.intro (fr.mem (b:=n2) (by simp)) (And.intro (fr.mem (b:=n1) (by simp)) (fr.nu))))
   have f9:=fr.2 0
   simp only[AF,↓AE,simprocAttr,nuE,d75,U5]
   have dst_:True:=(by simp[]);generalize ν 0=n9 at dst_  f9⊢
   clear nuE fr
   have w1:Vm.AA Bw n1=none:=(SubA.left Bw _).none h1n
   have w2:Vm.AA Bw n2=none:=(SubA.left Bw _).none h2n
   have w5:Vm.AA Bw n5=none:=(SubA.left Bw _).none h5n
   have w7:Vm.AA Bw n7=none:=(SubA.left Bw _).none g7
   have DX: ∀o o1 o2 o3,Dis Bw ((n7,o)::(n5,o1)::(n2,o2)::(n1,o3)::(B3++(C++A))):=fun _ _ _ _=>Fz w7 <| Fz w5 (Fz w2 (Fz w1 dW3))
   have sXN: ∀o o1 o2 o3,SubA ((n7,o)::(n5,o1)::(n2,o2)::(n1,o3)::(B3++(C++A))) ((n7,o)::(n5,o1)::(n2,o2)::(n1,o3)::(Bw++(B3++(C++A)))):=fun _ _ _ _=>SubA.app (B:=[_,_,_,_]) dW3.right
   refine Fv.use ?_
   refine D0 (m:=1) (news:=Ba r) (B:=Bw) cr eE rfl (by decide) ho (SubA.fresh f9 (SubA.trans (SubA.left Bw _) (SubA.skip N7 (SubA.skip N5 (SubA.skip N2 (SubA.skip N1 (SubA.refl _))))))) (.inr ⟨n9,0,rfl,by simp[Vm.AA,B7,Ba]⟩) (by simp[Ba,Value.oneCell']) (by simp only[maxLen];omega) (by omega) ?_
   intro v' B' ho' hb
   have ho3:BU Ba 5 60 v' B' (rs2++[r]):=by
    unfold BU
    rw[List.length_append,List.flatMap_append]
    simpa using ho'
   have dB':=J5 hb (DX _ _ _ _) (SubA.trans (sXN _ _ _ _) (SubA.fresh f9 (SubA.refl _)))
   obtain⟨p9,cap9,rfl,_⟩:=ho3.slice
   have sK:=dB'.sub (SubA.trans (sXN (.cells #[.int .i64 s.op,.string s.nm,.string s.tx,.int .i64 s.n,.slice s.p s.len s.cap] 60) _ _ _) (SubA.fresh (o:=.cells #[.int .i64 r.op,.string r.nm,.string r.tx,.int .i64 r.n,.slice r.p r.len r.cap] 60) f9 (SubA.refl _)))
   have sR: ∀o o1 o2 o3,SubA (B3++(C++A)) ((n7,o)::(n5,o1)::(n2,o2)::(n1,o3)::(B3++(C++A))):=fun _ _ _ _=>SubA.skip (dW3.right.none N7) (SubA.skip (dW3.right.none N5) (SubA.skip (dW3.right.none N2) (SubA.skip (dW3.right.none N1) (SubA.refl _))))
   refine⟨(n7,.cells #[.int .i64 s.op,.string s.nm,.string s.tx,.int .i64 s.n,.slice s.p s.len s.cap] 60)::(n5,.cells #[.int .i64 op,.string nm,.string tx,.int .i64 n,.slice p' rs2.length cap'] 60)::(n2,.cells #[.int .i64 0,.string ⟨#[]⟩,.string ⟨#[]⟩,.int .i64 0,.slice none 0 0] 60)::(n1,.cells #[.int .i64 op,.string nm,.string tx,.int .i64 n,.slice (some ⟨bk,off,none⟩) args.length cap] 60)::(B'++(B3++(C++A))), ?_, ?_⟩
   ·refine SubA.both (X:=[(n7,_),(n5,_),(n2,_),(n1,_)]) (SubA.trans (SubA.left [_,_,_,_] _) sK) (SubA.both (SubA.left _ _) (SubA.trans (sR _ _ _ _) sK))
   intro ν fr
   simp only[AF,↓AE,simprocAttr,we,d75]
   have k7:Vm.AA B' n7=none:=dB' n7 (by simp[Vm.AA])
   have k5:Vm.AA B' n5=none:=dB' n5 (by simp[Vm.AA,d75])
   have k2:Vm.AA B' n2=none:=dB' n2 (by simp[Vm.AA,d72,d52])
   have k1:Vm.AA B' n1=none:=dB' n1 (by simp[Vm.AA,d71,d51,n01])
   have dB'3:Dis B' (B3++(C++A)):=Dis.subr dB' (sR _ _ _ _)
   have hA3:Dis B3 C:=Dis.subr dBC (SubA.left C A)
   have hch2: ∀(k:Nat) (y:Xs) (z:Xr),args[k]? =some y→(rs2++[r])[k]? =some z→ExR (B3++C) (OY y) z:=fun k y z hy hz=>by
    by_cases hk:k<rs2.length
    ·rw[List.getElem?_append_left hk]at hz
     exact(hch k y z hy hz).mono hA3.right
    ·rw[List.getElem?_append_right (by omega)]at hz
     have hk0:k - rs2.length=0:=by
      cases h:k - rs2.length with
      |zero=>rfl
      |succ q=>rw[h]at hz;simp at hz
     rw[hk0]at hz
     cases hz
     have hke:k=e:=by omega
     rw[hke,ha]at hy
     cases hy
     exact hr.mono (SubA.left _ _)
   exact AR.weak (ihl (e+1) _ B' (B3++C) (rs2++[r]) hd' (by omega) ho3 (by simp[hr2l]) hch2 (by rw[List.append_assoc];exact dB'3) (Dis.app (Dis.subr dBC dCA.right) dCA) (by rw[List.append_assoc];exact AD k1 (dW3.right.none N1)) (by rw[List.append_assoc];exact AD k2 (dW3.right.none N2)) (by rw[List.append_assoc];exact AD k5 (dW3.right.none N5))) (by simp[Ah,AO]) (by rw[List.append_assoc];exact SubA.skip (AJ d57 (AJ (eq_false fun h=>by rw[h]at d72;simp at d72) (AJ (eq_false fun h=>by rw[h]at d71;simp at d71) (AD k7 (dW3.right.none N7))))) (SubA.refl _))
set_option maxHeartbeats 4000000
set_option maxRecDepth 20000
theorem U4: ∀{l m:List Xs},Rb l m=true→l.length=m.length
 | [],[],_=>rfl
 | [],_::_,h=>by simp[Rb]at h
 |_::_,[],h=>by simp[Rb]at h
 |x::l,y::m,h=>by
  simp only[Rb,Bool.and_eq_true]at h
  simp[U4 h.2]
theorem gR(A:AH)(L M:List Xs)(p q:Option Addr)(cap cap2:Nat)(rs ss:List Xr)(hl:L.length≤140737488355328)(hrs:rs.length=L.length)(hss:ss.length=M.length)(hS:B5 Ba 5 A p rs)(hS2:B5 Ba 5 A q ss)(ih: ∀(k:Nat) (x y:Xs) (r s:Xr),L[k]? =some x→M[k]? =some y→rs[k]? =some r→ss[k]? =some s→ ∀B,SubA A B→Ag Tryz.prog 88 #[Bt r,Bt s] B=some (.bool (YO x y))):AK Tryz.prog 124 #[.slice p L.length cap,.slice q M.length cap2,.func (.func 88) #[] #[]] A (fun u_ A_=>u_=.bool (Rb L M)∧SubA A A_):=by
 refine AC ⟨Tryz.prog,124,Tryz.f124,32,[0,1,2,6,7,8,9,15,16,17],⟨[],none⟩,[],_⟩ rfl (args:=[_,_,_]) Tryz.func124 rfl (by kernel_rfl) Tryz.ntmps124 (by simp) (by kernel_rfl) ?_
 intro ν fr
 by_cases hlen:L.length=M.length
 rotate_left
 ·have e1:((L.length:Int) !=(M.length:Int))=true:=by simp;omega
  have e2:((L.length:Int)=(M.length:Int))=False:=eq_false (by omega)
  have e3:Rb L M=false:=by
   cases h:Rb L M with
   |false=>rfl
   |true=>exact absurd (U4 h) hlen
  rw[e3]
  simp only[AF,↓AE,simprocAttr,e1]
 have e1:((L.length:Int) !=(M.length:Int))=false:=by simp;omega
 have e2:((L.length:Int)=(M.length:Int))=True:=eq_true (by omega)
 simp only[AF,↓AE,simprocAttr,hlen]
 clear fr e1 e2
 rw[←hlen]
 obtain⟨e,l,m,he,hd,hd2,hle,hx⟩: ∃(e:Nat) (l m:List Xs),e=0∧l=L.drop e∧m=M.drop e∧e≤L.length∧Rb L M=Rb l m:=⟨0,_,_,rfl,rfl,rfl,by omega,rfl⟩
 rw[hx]
 rw[show(17,some (Value.int .i64 0))=(17,some (Value.int .i64 (e:Int))) by rw[he];rfl]
 clear he hx
 induction l generalizing e m with
 |nil=>
  obtain⟨hn1,hn2⟩:=drop_nil hd hle
  have lt:((e:Int)<(L.length:Int))=False:=eq_false (by omega)
  have hm:m=[]:=by rw[hd2,List.drop_eq_nil_of_le (by omega)]
  subst hm
  refine AR.intro (by kernel_rfl) ?_
  intro ν fr
  simp only[AF,↓AE,simprocAttr,lt]
  rfl
 | cons x l ihl=>
  obtain⟨ha,hlt,hd',htk⟩:=Be hd
  obtain⟨y,m',hm⟩: ∃y m',m=y::m':=by
   cases m with
   |nil=>have:=congrArg List.length hd2;simp at this;omega
   |cons y m'=>exact⟨y,m',rfl⟩
  subst hm
  obtain⟨hb,_,hd2',_⟩:=Be hd2
  have lt:((e:Int)<(L.length:Int))=True:=eq_true (by omega)
  have li:((e:Int)<0)=False:=eq_false (by omega)
  have we:IntKind.i64.wrap ((e:Int)+1)=((e+1:Nat):Int):=by rw[AW (by omega) (by omega)];omega
  obtain⟨r,hr⟩: ∃r,rs[e]? =some r:=⟨_,List.getElem?_eq_getElem (by omega)⟩
  obtain⟨s,hs⟩: ∃s,ss[e]? =some s:=⟨_,List.getElem?_eq_getElem (by omega)⟩
  obtain⟨bk,off,cs,ty,fr0,hp0,hbk,hcr,hcc⟩:=hS.at hr
  obtain⟨bk',off',cs',ty',fr0',hp0',hbk',hcr',hcc'⟩:=hS2.at hs
  subst hp0
  subst hp0'
  simp only[Ba]at hcr hcr'
  refine AR.intro (by kernel_rfl) ?_
  intro ν fr;have nuE:=fr.nu
  have f0:=fr.2 0
  have f1:=fr.2 1
  have n01:(ν 1=ν 0)=False:=by simp[nuE]
  obtain⟨q1,q2⟩:=AU f0 hbk
  obtain⟨q3,q4⟩:=AU f0 hbk'
  have iv:=fun o o1=>ih e x y r s ha hb hr hs ((ν 1,o)::(ν 0,o1)::A) (SubA.skip f1 (SubA.skip f0 (SubA.refl _)))
  simp only[Bt,Ba]at iv
  cases hg:YO x y with
  |true=>
   rw[hg]at iv
   simp only[AF,↓AE,simprocAttr,nuE,fr.2,lt,we,hbk,hcr,hbk',hcr',q3,iv]
   have hc:Rb (x::l) (y::m')=Rb l m':=by simp[Rb,hg]
   rw[hc]
   exact AR.weak (ihl (e+1) m' hd' hd2' (by omega)) (by simp[Ah,AO]) (SubA.skip f1 (SubA.skip f0 (SubA.refl _)))
  |false=>
   rw[hg]at iv
   simp only[AF,↓AE,simprocAttr,nuE,fr.2,lt,we,hbk,hcr,hbk',hcr',q3,iv]
   simp[Rb,hg]
theorem gS(A:AH)(L M:List Xs)(p q:Option Addr)(cap cap2:Nat)(rs ss:List Xr)(hl:L.length≤140737488355328)(hrs:rs.length=L.length)(hss:ss.length=M.length)(hS:B5 Ba 5 A p rs)(hS2:B5 Ba 5 A q ss)(ih: ∀(k:Nat) (x y:Xs) (r s:Xr),L[k]? =some x→M[k]? =some y→rs[k]? =some r→ss[k]? =some s→ ∀B,SubA A B→Ag Tryz.prog 88 #[Bt r,Bt s] B=some (.bool (YO x y)))(B_:AH)(hB_:SubA A B_):Ag Tryz.prog 124 #[.slice p L.length cap,.slice q M.length cap2,.func (.func 88) #[] #[]] B_=some (.bool (Rb L M)):=AX (Aj (by kernel_rfl) (gR A L M p q cap cap2 rs ss hl hrs hss hS hS2 ih) hB_)
theorem Ze(A:AH)(op n op' n':Int)(nm tx nm' tx':ByteArray)(L M:List Xs)(p q:Option Addr)(cap cap2:Nat)(rs ss:List Xr)(hl:L.length≤140737488355328)(hrs:rs.length=L.length)(hss:ss.length=M.length)(hS:B5 Ba 5 A p rs)(hS2:B5 Ba 5 A q ss)(ih: ∀(k:Nat) (x y:Xs) (r s:Xr),L[k]? =some x→M[k]? =some y→rs[k]? =some r→ss[k]? =some s→ ∀B,SubA A B→Ag Tryz.prog 88 #[Bt r,Bt s] B=some (.bool (YO x y))):AK Tryz.prog 88 #[.agg #[.int .i64 op,.string nm,.string tx,.int .i64 n,.slice p L.length cap],.agg #[.int .i64 op',.string nm',.string tx',.int .i64 n',.slice q M.length cap2]] A (fun u_ A_=>u_=.bool (YO (.mk op nm tx n L) (.mk op' nm' tx' n' M))∧SubA A A_):=by
 refine AC ⟨Tryz.prog,88,Tryz.f88,36,[0,1,2,3,4],⟨[],none⟩,[],_⟩ rfl (args:=[_,_]) Tryz.func88 rfl (by kernel_rfl) Tryz.ntmps88 (by simp) (by kernel_rfl) ?_
 intro ν fr;have nuE:=fr.nu
 have f0:=fr.2 0
 have f1:=fr.2 1
 have n01:(ν 1=ν 0)=False:=by simp[nuE]
 have ev:=fun o o1=>gS A L M p q cap cap2 rs ss hl hrs hss hS hS2 ih ((ν 1,o)::(ν 0,o1)::A) (SubA.skip f1 (SubA.skip f0 (SubA.refl _)))
 have sF: ∀o o1,SubA A ((ν 1,o)::(ν 0,o1)::A):=fun _ _=>SubA.skip f1 (SubA.skip f0 (SubA.refl _))
 rw[YO]
 by_cases h1:op=op'
 rotate_left
 ·have g1:(op !=op')=true:=by simp[h1]
  simp only[AF,↓AE,simprocAttr,nuE,fr.2,g1,eq_false h1]
 have g1:(op !=op')=false:=by simp[h1]
 by_cases h2:nm.toList=nm'.toList
 rotate_left
 ·have g2:(nm.toList !=nm'.toList)=true:=by simp[h2]
  simp only[AF,↓AE,simprocAttr,nuE,fr.2,h1,eq_false h2]
 have g2:(nm.toList !=nm'.toList)=false:=by simp[h2]
 by_cases h3:tx.toList=tx'.toList
 rotate_left
 ·have g3:(tx.toList !=tx'.toList)=true:=by simp[h3]
  simp only[AF,↓AE,simprocAttr,nuE,fr.2,h1,h2,eq_false h3]
 have g3:(tx.toList !=tx'.toList)=false:=by simp[h3]
 by_cases h4:n=n'
 rotate_left
 ·have g4:(n !=n')=true:=by simp[h4]
  simp only[AF,↓AE,simprocAttr,nuE,fr.2,h1,h2,h3,g4,eq_false h4]
 have g4:(n !=n')=false:=by simp[h4]
 simp only[AF,↓AE,simprocAttr,nuE,fr.2,h1,h2,h3,h4,ev]
theorem Zf(A:AH)(op n op' n':Int)(nm tx nm' tx':ByteArray)(L M:List Xs)(p q:Option Addr)(cap cap2:Nat)(rs ss:List Xr)(hl:L.length≤140737488355328)(hrs:rs.length=L.length)(hss:ss.length=M.length)(hS:B5 Ba 5 A p rs)(hS2:B5 Ba 5 A q ss)(ih: ∀(k:Nat) (x y:Xs) (r s:Xr),L[k]? =some x→M[k]? =some y→rs[k]? =some r→ss[k]? =some s→ ∀B,SubA A B→Ag Tryz.prog 88 #[Bt r,Bt s] B=some (.bool (YO x y)))(B_:AH)(hB_:SubA A B_):Ag Tryz.prog 88 #[.agg #[.int .i64 op,.string nm,.string tx,.int .i64 n,.slice p L.length cap],.agg #[.int .i64 op',.string nm',.string tx',.int .i64 n',.slice q M.length cap2]] B_=some (.bool (YO (.mk op nm tx n L) (.mk op' nm' tx' n' M))):=AX (Aj (by kernel_rfl) (Ze A op n op' n' nm tx nm' tx' L M p q cap cap2 rs ss hl hrs hss hS hS2 ih) hB_)
theorem qA{A:AH}{t:Xs}{r:Xr}(h:ExR A t r): ∀{u:Xs} {s:Xr},ExR A u s→ ∀B,SubA A B→Ag Tryz.prog 88 #[Bt r,Bt s] B=some (.bool (YO t u)):=by
 induction h with
 | @mk op n nm tx args p cap rs h0 h0' h1 h2 h3 ih=>
  intro u s hs B hB
  cases hs with
  | @mk op' n' nm' tx' args' q cap' ss g0 g0' g1 g2 g3=>
   exact Zf A op n op' n' nm tx nm' tx' args args' p q cap cap' rs ss h0 h1 g1 h2 g2 (fun k x y r s hx hy hr hs C hC=>ih k x r hx hr (g3 k y s hy hs) C hC) B hB
set_option maxHeartbeats 4000000
set_option maxRecDepth 20000
theorem jD{l:List Xs}{x:Xs}(h:x∈l):(FC x).length≤(LL l).length:=by
 induction l with
 |nil=>cases h
 |cons y l ih=>
  rw[LL,List.length_append]
  rcases List.mem_cons.1 h with rfl|h
  ·omega
  ·have:=ih h;omega
theorem gv{op n:Int}{nm tx:ByteArray}{k:Nat}(h:Mn op nm tx n k=true):k≤17:=by
 unfold Mn at h
 split at h
 ·simp at h;omega
 split at h
 ·simp at h;omega
 split at h
 ·simp at h;omega
 split at h
 ·simp at h;omega
 simp only[Bool.and_eq_true]at h
 have h:=h.2
 split at h
 ·simp at h;omega
 split at h
 ·simp at h;omega
 ·simp at h;omega
theorem p8{A:AH}{t:Xs}{r:Xr}(h:ExR A t r):SzT t→HX t=true→(FC t).length≤1000000→AK Tryz.prog 126 #[Bt r] A (pA A (OY t)):=by
 induction h with
 | @mk op n nm tx args p cap rs h0 h0' h1 h2 h3 ih=>
  intro hz ho hn
  have hz':=hz
  cases hz with
  |mk z1 z2 z3=>
  have ho':=ho
  rw[HX,Bool.and_eq_true,JW,List.all_eq_true]at ho'
  have hn':=hn
  rw[FC,List.length_append]at hn'
  exact gT A op n nm tx args p cap rs (ExR.mk h0 h0' h1 h2 h3) hz' ho (by simpa[JF]using hn) (by have:=gv ho'.1;omega) h1 h2 (fun k x r hx hr=>ih k x r hx hr (z3 x (List.mem_of_getElem? hx)) (ho'.2 x (List.mem_of_getElem? hx)) (by have:=jD (List.mem_of_getElem? hx);omega))
theorem gU(A:AH)(t:Xs)(r:Xr)(hE:ExR A t r)(hz:SzT t)(hd:Mm t 8=false)(ho:HX t=true)(hn:(FC t).length≤1000000):AK Tryz.prog 89 #[.agg #[.int .i64 r.op,.string r.nm,.string r.tx,.int .i64 r.n,.slice r.p r.len r.cap]] A (fun u_ A_=>pA A (OY t) u_ A_):=by
 refine AC ⟨Tryz.prog,89,Tryz.f89,14,[0,1,2],⟨[126],none⟩,[],_⟩ rfl (args:=[_]) Tryz.func89 rfl (by kernel_rfl) Tryz.ntmps89 (by simp) (by kernel_rfl) ?_
 intro ν fr;have nuE:=fr.nu
 have f0:=fr.2 0
 have f1:=fr.2 1
 have n01:(ν 1=ν 0)=False:=by simp[nuE]
 have s2: ∀o o1,SubA A ((ν 1,o)::(ν 0,o1)::A):=fun _ _=>SubA.skip f1 (SubA.skip f0 (SubA.refl _))
 have dv: ∀o o1,Ag Tryz.prog 85 #[.agg #[.int .i64 r.op,.string r.nm,.string r.tx,.int .i64 r.n,.slice r.p r.len r.cap],.int .i64 8] ((ν 1,o)::(ν 0,o1)::A)=some (.bool (Mm t 8)):=fun o o1=>py hE 8 (by omega) _ (s2 o o1)
 have fv:=fun o o1=>pz hE hz ((ν 1,o)::(ν 0,o1)::A) (s2 o o1)
 simp only[Bt,Ba,hd,ho]at dv fv
 simp only[AF,↓AE,simprocAttr,nuE,dv,fv]
 have dst_:((ν 0=ν 1)=False)∧((ν 1=ν 0)=False):=(by simp[nuE]);generalize ν 0=n1 at dst_  f0 f1 n01 s2 ⊢;generalize ν 1=n2 at dst_  f0 f1 n01 s2⊢
 have f1':Vm.AA A n2=none:=f1
 clear nuE fr dv fv
 refine AK.newX (R:=fun v B=> ∃r,v=Bt r∧ExR B (OY t) r) (p8 hE hz ho hn) (s2 _ _) ?_
 rintro v B ⟨q,rfl,hq⟩ dB
 have dBA:Dis B A:=Dis.subr dB (s2 _ _)
 have b2:Vm.AA B n2=none:=dB n2 (by simp[Vm.AA])
 refine⟨(n2,.cells #[.int .i64 0,.string ⟨#[]⟩,.string ⟨#[]⟩,.int .i64 0,.slice none 0 0] 60)::(B++A),SubA.both (X:=[(n2,_)]) (SubA.trans (SubA.left [(n2,_)] _) dB.right) (SubA.both (SubA.left _ _) (SubA.trans (s2 _ _) dB.right)), ?_⟩
 simp only[Bt,Ba]
 intro ν fr
 simp only[AF,↓AE,simprocAttr]
 exact⟨_,B,rfl,⟨q,rfl,hq⟩,dBA,SubA.skip (AD b2 f1') (SubA.refl _)⟩
theorem g8(A:AH)(n:Int):AK Tryz.prog 90 #[.int .i64 n] A (fun u_ A_=>pA A (sU n) u_ A_):=by
 refine AC ⟨Tryz.prog,90,Tryz.f90,8,[0,2],⟨[],none⟩,[],_⟩ rfl (args:=[_]) Tryz.func90 rfl (by kernel_rfl) Tryz.ntmps90 (by simp) (by kernel_rfl) ?_
 intro ν fr;have nuE:=fr.nu
 have f0:=fr.2 0
 simp only[AF,↓AE,simprocAttr,nuE,cR]
 exact⟨_,[(ν 1,_)],rfl,⟨⟨8,eB,eB,0,some ⟨ν 1,0,none⟩,2,2⟩,rfl,re _ _ _⟩,Dis.one (fr.2 1),SubA.app (B:=[_]) (SubA.skip f0 (SubA.refl _))⟩
set_option maxHeartbeats 4000000
set_option maxRecDepth 20000
def pP(t:Xs):Prop:=SzT t∧Mm t 8=false∧HX t=true∧(FC t).length≤1000000
theorem gw(A:AH)(t:Xs)(r:Fuv)(hE:ExR A t r.w)(hb:pP t):AK Tryz.prog 60 #[Value.agg #[.string r.nm,.int .i64 r.w.op,.string r.w.nm,.string r.w.tx,.int .i64 r.w.n,.slice r.w.p r.w.len r.w.cap,.int .i64 r.bps,.int .i64 r.fx,.int .i64 r.mn,.int .i64 r.mx]] A (fun u_ A_=>u_=.bool (Va t)∧SubA A A_):=by
 refine AC ⟨Tryz.prog,60,Tryz.f60,8,[0,1,2],⟨[89,90],none⟩,[],_⟩ rfl (args:=[_]) Tryz.func60 rfl (by kernel_rfl) Tryz.ntmps60 (by simp) (by kernel_rfl) ?_
 intro ν fr
 obtain⟨hz,hd,ho,hn⟩:=hb
 have f0:=fr.2 0
 simp only[AF,↓AE,simprocAttr]
 have dst_:True:=(by simp[]);generalize ν 0=n1 at dst_  f0⊢
 clear fr
 have s1: ∀o,SubA A ((n1,o)::A):=fun _=>SubA.skip f0 (SubA.refl _)
 refine AK.newX (R:=fun v B=> ∃q,v=Bt q∧ExR B (OY t) q) (gU A t r.w hE hz hd ho hn) (s1 _) ?_
 rintro v B1 ⟨q1,rfl,e1⟩ d1
 refine⟨B1++A,SubA.both (SubA.left _ _) (SubA.trans (s1 _) d1.right), ?_⟩
 simp only[Bt,Ba]
 intro ν fr
 simp only[AF,↓AE,simprocAttr]
 clear fr
 have d1A:Dis B1 A:=Dis.subr d1 (s1 _)
 refine AK.newX (R:=fun v B=> ∃q,v=Bt q∧ExR B (sU 1) q) (g8 (B1++A) 1) (SubA.refl _) ?_
 rintro v B2 ⟨q2,rfl,e2⟩ d2
 refine⟨B2++(B1++A),SubA.refl _, ?_⟩
 have sv:=qA (A:=B2++(B1++A)) (e1.mono (SubA.trans (SubA.left _ _) d2.right)) (e2.mono (SubA.left _ _)) _ (SubA.refl _)
 simp only[Bt,Ba]at sv⊢
 intro ν fr
 simp only[AF,↓AE,simprocAttr,sv]
 have ha:Va t=YO (OY t) (sU 1):=by unfold Va qM;simp[hd,ho]
 exact⟨by rw[ha],SubA.trans d1A.right d2.right⟩
theorem gx(A:AH)(t:Xs)(r:Fuv)(hE:ExR A t r.w)(hb:pP t)(B_:AH)(hB_:SubA A B_):Ag Tryz.prog 60 #[Value.agg #[.string r.nm,.int .i64 r.w.op,.string r.w.nm,.string r.w.tx,.int .i64 r.w.n,.slice r.w.p r.w.len r.w.cap,.int .i64 r.bps,.int .i64 r.fx,.int .i64 r.mn,.int .i64 r.mx]] B_=some (.bool (Va t)):=AX (Aj (by kernel_rfl) (gw A t r hE hb) hB_)
def kK(l:List Fu):Bool:=(l.map fun u=>Va u.w).any id
def Kx:Option Nat→Int
 |none=> -1
 |some i=>(i:Int)
def LW(A:AH)(us:List Fu)(p:Option Addr)(rs:List Fuv):Prop:=rs.length=us.length∧B5 JY 10 A p rs∧ ∀(k:Nat) (u:Fu) (r:Fuv),us[k]? =some u→rs[k]? =some r→eW A u r
theorem LW.mono{A B:AH}{us:List Fu}{p:Option Addr}{rs:List Fuv}(h:LW A us p rs)(hs:SubA A B):LW B us p rs:=⟨h.1,h.2.1.mono hs,fun k u r a b=>(h.2.2 k u r a b).mono hs⟩
def HS:List Bool→Option Nat
 | []=>none
 |b::l=>if b=true then some 0 else(HS l).map (· +1)
theorem QO: ∀l,(HS l).isSome=l.any id
 | []=>rfl
 |b::l=>by
  simp only[HS,List.any_cons]
  cases b with
  |true=>simp
  |false=>simp;simpa using QO l
theorem ma(A:AH)(p:Option Addr)(rs:List Fuv)(cap:Nat)(hS:B5 JY 10 A p rs)(hl:rs.length≤1000000)(bl:List Bool)(hbl:bl.length=rs.length)(g:FuncId)(pre fv:List Value)(hP: ∀(k:Nat) (r:Fuv) (b:Bool),rs[k]? =some r→bl[k]? =some b→ ∀B,SubA A B→Ag Tryz.prog g (pre++List.cons (Value.agg #[.string r.nm,.int .i64 r.w.op,.string r.w.nm,.string r.w.tx,.int .i64 r.w.n,.slice r.w.p r.w.len r.w.cap,.int .i64 r.bps,.int .i64 r.fx,.int .i64 r.mn,.int .i64 r.mx]) fv).toArray B=some (.bool b)):AK Tryz.prog 65 #[.slice p rs.length cap,.func (.func g) pre.toArray fv.toArray] A (fun u_ A_=>u_=.int .i64 (Kx (HS bl))∧SubA A A_):=by
 refine AC ⟨Tryz.prog,65,Tryz.f65,19,[0,1,4,5,7,8],⟨[],none⟩,[],_⟩ rfl (args:=[_,_]) Tryz.func65 rfl (by kernel_rfl) Tryz.ntmps65 (by simp) (by kernel_rfl) ?_
 intro ν fr
 simp only[AF,↓AE,simprocAttr]
 obtain⟨e1,l,he,hd,hle,hx1⟩: ∃(e:Nat) (l:List Bool),e=0∧l=bl.drop e∧e≤bl.length∧HS bl=(HS l).map (· +e):=⟨0,bl,rfl,rfl,by omega,by cases HS bl<;>simp⟩
 rw[show(8,some (Value.int .i64 0))=(8,some (Value.int .i64 (e1:Int))) by rw[he];rfl]
 clear he fr
 induction l generalizing e1 with
 |nil=>
  obtain⟨hn1,hn2⟩:=drop_nil hd hle
  have lt:((e1:Int)<(rs.length:Int))=False:=eq_false (by omega)
  refine AR.intro (by kernel_rfl) ?_
  intro ν fr
  simp only[AF,↓AE,simprocAttr,lt]
  rw[hx1];rfl
 | cons b l ih=>
  obtain⟨ha,hlt,hd',htk⟩:=Be hd
  have lt:((e1:Int)<(rs.length:Int))=True:=eq_true (by omega)
  have li:((e1:Int)<0)=False:=eq_false (by omega)
  have we:IntKind.i64.wrap ((e1:Int)+1)=((e1+1:Nat):Int):=by rw[AW (by omega) (by omega)];omega
  obtain⟨x,hx⟩: ∃x,rs[e1]? =some x:=⟨_,List.getElem?_eq_getElem (by omega)⟩
  obtain⟨bk,off,cs,ty,fr0,hp0,hbk,hcr,hcc⟩:=hS.at hx
  subst hp0
  simp only[JY]at hcr
  have rv:=hP e1 x b hx ha A (SubA.refl _)
  have rv2:=rv
  rw[show pre++List.cons (Value.agg #[.string x.nm,.int .i64 x.w.op,.string x.w.nm,.string x.w.tx,.int .i64 x.w.n,.slice x.w.p x.w.len x.w.cap,.int .i64 x.bps,.int .i64 x.fx,.int .i64 x.mn,.int .i64 x.mx]) fv=pre++[Value.agg #[.string x.nm,.int .i64 x.w.op,.string x.w.nm,.string x.w.tx,.int .i64 x.w.n,.slice x.w.p x.w.len x.w.cap,.int .i64 x.bps,.int .i64 x.fx,.int .i64 x.mn,.int .i64 x.mx]]++fv by simp]at rv2
  refine AR.intro (by kernel_rfl) ?_
  intro ν fr
  cases b with
  |true=>
   simp only[AF,↓AE,simprocAttr,lt,hbk,hcr,rv2,we]
   rw[hx1];simp[HS,Kx]
  |false=>
   simp only[AF,↓AE,simprocAttr,lt,hbk,hcr,rv2,we]
   exact AR.weak (ih (e1+1) hd' (by omega) (by rw[hx1];simp only[HS,Bool.false_eq_true,if_false,Option.map_map];congr 1;funext i;simp only[Function.comp];omega)) (by simp[Ah,AO]) (SubA.refl _)
theorem aF(A:AH)(p:Option Addr)(rs:List Fuv)(cap:Nat)(hS:B5 JY 10 A p rs)(hl:rs.length≤1000000)(bl:List Bool)(hbl:bl.length=rs.length)(g:FuncId)(pre fv:List Value)(hP: ∀(k:Nat) (r:Fuv) (b:Bool),rs[k]? =some r→bl[k]? =some b→ ∀B,SubA A B→Ag Tryz.prog g (pre++List.cons (Value.agg #[.string r.nm,.int .i64 r.w.op,.string r.w.nm,.string r.w.tx,.int .i64 r.w.n,.slice r.w.p r.w.len r.w.cap,.int .i64 r.bps,.int .i64 r.fx,.int .i64 r.mn,.int .i64 r.mx]) fv).toArray B=some (.bool b))(B_:AH)(hB_:SubA A B_):Ag Tryz.prog 65 #[.slice p rs.length cap,.func (.func g) pre.toArray fv.toArray] B_=some (.int .i64 (Kx (HS bl))):=AX (Aj (by kernel_rfl) (ma A p rs cap hS hl bl hbl g pre fv hP) hB_)
theorem lY(A:AH)(p:Option Addr)(rs:List Fuv)(cap:Nat)(hS:B5 JY 10 A p rs)(hl:rs.length≤1000000)(bl:List Bool)(hbl:bl.length=rs.length)(g:FuncId)(pre fv:List Value)(hP: ∀(k:Nat) (r:Fuv) (b:Bool),rs[k]? =some r→bl[k]? =some b→ ∀B,SubA A B→Ag Tryz.prog g (pre++List.cons (Value.agg #[.string r.nm,.int .i64 r.w.op,.string r.w.nm,.string r.w.tx,.int .i64 r.w.n,.slice r.w.p r.w.len r.w.cap,.int .i64 r.bps,.int .i64 r.fx,.int .i64 r.mn,.int .i64 r.mx]) fv).toArray B=some (.bool b)):AK Tryz.prog 56 #[.slice p rs.length cap,.func (.func g) pre.toArray fv.toArray] A (fun u_ A_=>u_=.bool (bl.any id)∧SubA A A_):=by
 refine AC ⟨Tryz.prog,56,Tryz.f56,9,[0,1,4],⟨[],none⟩,[],_⟩ rfl (args:=[_,_]) Tryz.func56 rfl (by kernel_rfl) Tryz.ntmps56 (by simp) (by kernel_rfl) ?_
 intro ν fr
 have iv:=aF A p rs cap hS hl bl hbl g pre fv hP
 have hm:=QO bl
 cases hi:HS bl with
 |none=>
  rw[hi]at hm iv
  have hm':bl.any id=false:=hm.symm
  simp only[AF,↓AE,simprocAttr,iv,Kx,hm']
 |some i=>
  rw[hi]at hm iv
  have hm':bl.any id=true:=hm.symm
  have h0:(0≤(i:Int)):=by omega
  simp only[AF,↓AE,simprocAttr,iv,Kx,hm',h0]
theorem Y7(A:AH)(p:Option Addr)(rs:List Fuv)(cap:Nat)(hS:B5 JY 10 A p rs)(hl:rs.length≤1000000)(bl:List Bool)(hbl:bl.length=rs.length)(g:FuncId)(pre fv:List Value)(hP: ∀(k:Nat) (r:Fuv) (b:Bool),rs[k]? =some r→bl[k]? =some b→ ∀B,SubA A B→Ag Tryz.prog g (pre++List.cons (Value.agg #[.string r.nm,.int .i64 r.w.op,.string r.w.nm,.string r.w.tx,.int .i64 r.w.n,.slice r.w.p r.w.len r.w.cap,.int .i64 r.bps,.int .i64 r.fx,.int .i64 r.mn,.int .i64 r.mx]) fv).toArray B=some (.bool b))(B_:AH)(hB_:SubA A B_):Ag Tryz.prog 56 #[.slice p rs.length cap,.func (.func g) pre.toArray fv.toArray] B_=some (.bool (bl.any id)):=AX (Aj (by kernel_rfl) (lY A p rs cap hS hl bl hbl g pre fv hP) hB_)
theorem iA(A:AH)(us:List Fu)(p:Option Addr)(rs:List Fuv)(cap:Nat)(hS:LW A us p rs)(hl:us.length≤1000000)(hb: ∀u∈us,pP u.w):AK Tryz.prog 27 #[.slice p us.length cap] A (fun u_ A_=>u_=.bool (kK us)∧SubA A A_):=by
 refine AC ⟨Tryz.prog,27,Tryz.f27,5,[0,2],⟨[],none⟩,[],_⟩ rfl (args:=[_]) Tryz.func27 rfl (by kernel_rfl) Tryz.ntmps27 (by simp) (by kernel_rfl) ?_
 intro ν fr
 have cv:=Y7 A p rs cap hS.2.1 (by have:=hS.1;omega) (us.map fun u=>Va u.w) (by rw[List.length_map,hS.1]) 60 [] [] (fun k r b hr hk B hB=>by
  rw[List.getElem?_map]at hk
  obtain⟨u,hu,rfl⟩:=Option.map_eq_some_iff.1 hk
  exact gx A u.w r (hS.2.2 k u r hu hr).2.1 (hb u (List.mem_of_getElem? hu)) B hB)
 rw[hS.1]at cv
 simp only[AF,↓AE,simprocAttr,cv]
 rfl
theorem iD(A:AH)(us:List Fu)(p:Option Addr)(rs:List Fuv)(cap:Nat)(hS:LW A us p rs)(hl:us.length≤1000000)(hb: ∀u∈us,pP u.w)(B_:AH)(hB_:SubA A B_):Ag Tryz.prog 27 #[.slice p us.length cap] B_=some (.bool (kK us)):=AX (Aj (by kernel_rfl) (iA A us p rs cap hS hl hb) hB_)
end Go.Proofs.YtgmfcdeknaeikaaGreatDoor
