import Derived.Test.YtphppbonljdibaaGreatTB29
set_option maxRecDepth 100000
set_option maxHeartbeats 4000000
set_option linter.unusedVariables false
set_option linter.unusedSimpArgs false
namespace Go.Proofs.YtphppbonljdibaaGreat
open Go.ChangeShapes Go.WideShapes Go.ChangeAt Go.RowKit
def hgt (l:List Fl.O):Nat→Int
 | 0=>0
 | i+1=>hgt l i+(if (l.getD i Fl.o0).k=7 then 1 else 0) - (if (l.getD i Fl.o0).k=0 then 1 else 0)
theorem hgt_b (l:List Fl.O)(i:Nat):-(i:Int)≤hgt l i∧hgt l i≤i:=by
 induction i with
 | zero=>exact⟨Int.le_refl _,Int.le_refl _⟩
 | succ i ih=>simp only[hgt];split<;>split<;>omega
theorem hgt_7 {l:List Fl.O}{i:Nat}(h:(l.getD i Fl.o0).k=7):hgt l (i+1)=hgt l i+1:=by simp only[hgt,h];simp
theorem hgt_0 {l:List Fl.O}{i:Nat}(h:(l.getD i Fl.o0).k=0):hgt l (i+1)=hgt l i - 1:=by simp only[hgt,h];simp
theorem hgt_n {l:List Fl.O}{i:Nat}(h:(l.getD i Fl.o0).k≠7)(h0:(l.getD i Fl.o0).k≠0):hgt l (i+1)=hgt l i:=by simp only[hgt,if_neg h,if_neg h0];omega
theorem rheight_any (A:Option Addr)(c:Nat)(l:List Fl.O)(at_:Nat)(w:World)(hlen:l.length≤1048576)(hA:OpsM w A l)(hat:at_≤l.length):
 Calls Tryz.prog 250 #[.slice A l.length c,.int .i64 at_] w fun e w'=>e=.returned (.int .i64 (hgt l at_))∧w'=w:=by
 have HA:=hid hA
 obtain⟨N,hN⟩:∃ N,l.length=N:=⟨_,rfl⟩
 have HN:=hid hN
 rw[hN] at hlen hat ⊢
 clear hA hN
 go_enter Tryz.func250,Tryz.ntmps250
 go_wp2_with fail
 go_loopw [5,6] (fun n i wr=>∃ q:Nat,q≤at_∧i=.int .i64 q∧n=.int .i64 (hgt l q)∧wr=w) (fun _ i _=>at_ - (intOf i).toNat)
 case atStart=>exact⟨0,by omega,rfl,rfl,rfl⟩
 case round=>
  obtain⟨q,hq,rfl,rfl,rfl⟩:=hrel
  by_cases hqa:q<at_
  ·have L1:(q:Int)<at_:=by omega
   have hqN:q<N:=by omega
   obtain⟨b,off,rfl,hb,c0,_⟩:=HA.out.at_ (k:=q) (by rw[HN.out];exact hqN)
   have hbd:=hgt_b l q
   by_cases h7:(l.getD q Fl.o0).k=7
   ·have hg:=hgt_7 h7
    rw[h7] at c0
    clear h7
    generalize hgt l q=g0 at *
    have HG:=hid hg
    clear hg
    go_wp2_with fail
    go_roundw
    case rel=>exact⟨q+1,by omega,by go_num,by rw[HG.out],by first|trivial|rfl⟩
    case measure=>simp[intOf];omega
   ·by_cases h0:(l.getD q Fl.o0).k=0
    ·have hg:=hgt_0 h0
     rw[h0] at c0
     clear h7 h0
     generalize hgt l q=g0 at *
     have HG:=hid hg
     clear hg
     go_wp2_with fail
     go_roundw
     case rel=>exact⟨q+1,by omega,by go_num,by rw[HG.out],by first|trivial|rfl⟩
     case measure=>simp[intOf];omega
    ·have hg:=hgt_n h7 h0
     have e7:((l.getD q Fl.o0).k==7)=false:=beq_eq_false_iff_ne.2 h7
     have e0:((l.getD q Fl.o0).k==0)=false:=beq_eq_false_iff_ne.2 h0
     generalize (l.getD q Fl.o0).k=k at *
     clear h7 h0
     generalize hgt l q=g0 at *
     have HG:=hid hg
     clear hg
     go_wp2_with fail
     go_roundw
     case rel=>exact⟨q+1,by omega,by go_num,by rw[HG.out],by first|trivial|rfl⟩
     case measure=>simp[intOf];omega
  ·obtain rfl:q=at_:=by omega
   clear hqa
   go_wp2_with fail
   go_ret
   exact⟨rfl,rfl⟩
def TwoR (w:World)(e:Ending)(w':World):Prop:=∃ r1 r2:Int,e=.returned (.tuple #[.int .i64 r1,.int .i64 r2])∧KW w w'
theorem TwoR.of {w w':World}{e:Ending}(r1 r2:Int)(he:e=.returned (.tuple #[.int .i64 r1,.int .i64 r2]))(hk:KW w w'):TwoR w e w':=⟨r1,r2,he,hk⟩
def WellP (l:List Fl.O):Prop:=(∀ i,i≤l.length→0≤hgt l i)∧hgt l l.length=0
def WellR (l:List Fl.O)(w:World)(e:Ending)(w':World):Prop:=∃ b:Bool,e=.returned (.bool b)∧(b=true→WellP l)∧w'=w
theorem WellR.no {l:List Fl.O}{w:World}{e:Ending}(he:e=.returned (.bool false)):WellR l w e w:=⟨false,he,(fun h=>by cases h),rfl⟩
theorem WellR.yes {l:List Fl.O}{w:World}{e:Ending}(he:e=.returned (.bool true))(h:WellP l):WellR l w e w:=⟨true,he,fun _=>h,rfl⟩
theorem rwell_any (A:Option Addr)(c:Nat)(l:List Fl.O)(w:World)(hlen:l.length≤1048576)(hA:OpsM w A l):
 Calls Tryz.prog 198 #[.slice A l.length c] w (WellR l w):=by
 have HA:=hid hA
 obtain⟨N,hN⟩:∃ N,l.length=N:=⟨_,rfl⟩
 have HN:=hid hN
 rw[hN] at hlen ⊢
 clear hA hN
 go_enter Tryz.func198,Tryz.ntmps198
 go_wp2_with fail
 go_loopw [3,4] (fun n i wr=>∃ q:Nat,q≤N∧i=.int .i64 q∧n=.int .i64 (hgt l q)∧Hid (∀ i,i≤q→0≤hgt l i)∧wr=w) (fun _ i _=>N - (intOf i).toNat)
 case atStart=>exact⟨0,by omega,rfl,rfl,hid (fun i hi=>by obtain rfl:i=0:=(by omega);exact Int.le_refl _),rfl⟩
 case round=>
  obtain⟨q,hq,rfl,rfl,HP,rfl⟩:=hrel
  by_cases hqa:q<N
  ·have L1:(q:Int)<N:=by omega
   obtain⟨b,off,rfl,hb,c0,_⟩:=HA.out.at_ (k:=q) (by rw[HN.out];exact hqa)
   have hbd:=hgt_b l q
   have hp0:=HP.out q (Nat.le_refl _)
   have HS:Hid (0≤hgt l (q+1)→∀ i,i≤q+1→0≤hgt l i):=hid fun h i hi=>by
    rcases Nat.lt_or_ge q i with h1|h1
    ·obtain rfl:i=q+1:=by omega
     exact h
    ·exact HP.out i h1
   by_cases hneg:(l.getD q Fl.o0).k<0
   ·generalize (l.getD q Fl.o0).k=k at *
    generalize hgt l q=g0 at *
    go_wp2_with fail
    go_ret
    exact WellR.no rfl
   by_cases hbig:7<(l.getD q Fl.o0).k
   ·generalize (l.getD q Fl.o0).k=k at *
    generalize hgt l q=g0 at *
    go_wp2_with fail
    go_ret
    exact WellR.no rfl
   by_cases h7:(l.getD q Fl.o0).k=7
   ·have hg:=hgt_7 h7
    rw[h7] at c0
    clear h7 hneg hbig
    generalize hgt l q=g0 at *
    have HG:=hid hg
    clear hg
    go_wp2_with fail
    go_roundw
    case rel=>exact⟨q+1,by omega,by go_num,by rw[HG.out],hid (HS.out (by rw[HG.out];omega)),by first|trivial|rfl⟩
    case measure=>simp[intOf];omega
   by_cases h0:(l.getD q Fl.o0).k=0
   ·have hg:=hgt_0 h0
    rw[h0] at c0
    clear h7 h0 hneg hbig
    generalize hgt l q=g0 at *
    have HG:=hid hg
    clear hg
    by_cases hz:g0=0
    ·subst hz
     go_wp2_with fail
     go_ret
     exact WellR.no rfl
    ·have hz1:1≤g0:=by omega
     clear hz
     go_wp2_with fail
     go_roundw
     case rel=>exact⟨q+1,by omega,by go_num,by rw[HG.out],hid (HS.out (by rw[HG.out];omega)),by first|trivial|rfl⟩
     case measure=>simp[intOf];omega
   ·have hg:=hgt_n h7 h0
    have e7:((l.getD q Fl.o0).k==7)=false:=beq_eq_false_iff_ne.2 h7
    have e0:((l.getD q Fl.o0).k==0)=false:=beq_eq_false_iff_ne.2 h0
    generalize (l.getD q Fl.o0).k=k at *
    clear h7 h0
    generalize hgt l q=g0 at *
    have HG:=hid hg
    clear hg
    go_wp2_with fail
    go_roundw
    case rel=>exact⟨q+1,by omega,by go_num,by rw[HG.out],hid (HS.out (by rw[HG.out];omega)),by first|trivial|rfl⟩
    case measure=>simp[intOf];omega
  ·obtain rfl:q=N:=by omega
   clear hqa
   obtain⟨g0,hg0⟩:∃ g0,hgt l q=g0:=⟨_,rfl⟩
   have HG:=hid hg0
   rw[hg0]
   clear hg0
   by_cases hz:g0=0
   ·subst hz
    go_wp2_with fail
    go_ret
    exact WellR.yes rfl (by unfold WellP;rw[HN.out];exact⟨HP.out,HG.out⟩)
   ·have ez:(g0==0)=false:=beq_eq_false_iff_ne.2 hz
    clear hz
    go_wp2_with fail
    go_ret
    exact WellR.no rfl
theorem rdeep_any (A:Option Addr)(c:Nat)(l:List Fl.O)(w:World)(hlen:l.length≤1048576)(hA:OpsM w A l):
 Calls Tryz.prog 237 #[.slice A l.length c] w (TwoR w):=by
 have HW:=hid (rwell_any A c l w hlen hA)
 have HH:=hid (fun at_ hat=>rheight_any A c l at_ w hlen hA hat)
 have HBd:=hid (hgt_b l)
 clear hA
 generalize hN:l.length=N at *
 clear hN
 go_enter Tryz.func237,Tryz.ntmps237
 go_wp2_with fail
 refine HW.out.mono ?_
 rintro e w1 ⟨b,rfl,_,rfl⟩
 cases b with
 | false=>
   go_wp2_with fail
   go_ret2
   exact TwoR.of _ _ rfl (KW.refl _)
 | true=>
   go_wp2_with fail
   go_loopw [4,5] (fun n i wr=>∃ (q:Nat) (g:Int),q≤N+1∧i=.int .i64 q∧n=.int .i64 g∧-1048577≤g∧g≤1048577∧wr=w1) (fun _ i _=>N+1 - (intOf i).toNat)
   case atStart=>exact⟨0,0,by omega,rfl,rfl,by omega,by omega,rfl⟩
   case round=>
    obtain⟨q,g,hq,rfl,rfl,hg1,hg2,rfl⟩:=hrel
    by_cases hqa:q≤N
    ·have L1:(q:Int)≤N:=by omega
     have HQ:=hid (HH.out q hqa)
     have hb:=HBd.out q
     generalize hgt l q=g1 at *
     go_wp2_with fail
     refine HQ.out.mono ?_
     rintro e w2 ⟨rfl,rfl⟩
     go_wp2_with fail
     go_roundw
     case rel=>exact⟨q+1,_,by omega,by go_num,rfl,by(first|omega|(split<;>omega)),by(first|omega|(split<;>omega)),by first|trivial|rfl⟩
     case measure=>simp[intOf];omega
    ·have L1:¬ (q:Int)≤N:=by omega
     go_wp2_with fail
     go_ret2
     exact TwoR.of _ _ rfl (KW.refl _)
def MtOk (l:List Fl.O)(out:List Int):Prop:=out.length=l.length∧∀ j,j<l.length→(l.getD j Fl.o0).k=7→(j:Int)<out.getD j 0∧out.getD j 0<l.length
def MatchR (l:List Fl.O)(w:World)(e:Ending)(w':World):Prop:=(e=.returned (.tuple #[.slice none 0 0,.int .i64 6])∧KW w w')∨(∃ v out,e=.returned (.tuple #[v,.int .i64 0])∧Owns w' w.heap.size 3 v (ivs out)∧MtOk l out∧KW w w')
theorem rmatch_any (A:Option Addr)(c:Nat)(l:List Fl.O)(w:World)(hlen:l.length≤1048576)(hA:OpsM w A l):
 Calls Tryz.prog 162 #[.slice A l.length c] w (MatchR l w):=by
 have HW:=hid (rwell_any A c l w hlen hA)
 have HA:=hid hA
 obtain⟨N,hN⟩:∃ N,l.length=N:=⟨_,rfl⟩
 have HN:=hid hN
 rw[hN] at hlen HW ⊢
 clear hA hN
 go_enter Tryz.func162,Tryz.ntmps162
 go_wp2_with fail
 refine HW.out.mono ?_
 rintro e w1 ⟨b,rfl,hwell,rfl⟩
 cases b with
 | false=>
   go_wp2_with fail
   go_ret2
   exact .inl ⟨rfl,KW.refl _⟩
 | true=>
   have HWl:=hid (hwell rfl)
   clear hwell HW
   have hk0:=(KW.refl w1).alloc (.cells #[] 3)
   have HO0:Hid (Owns (w1.alloc (.cells #[] 3)) w1.heap.size 3 (.slice (some ⟨w1.heap.size,0,none⟩) 0 0) (ivs [])):=hid ⟨rfl,.inr ⟨w1.heap.size,0,#[],rfl,Nat.le_refl _,heap_alloc_new w1 _,Nat.le_refl _,Nat.zero_le _,rfl,rfl⟩⟩
   have HK0:=hid hk0
   clear hk0
   go_wp2_with fail
   go_loopw [4,5] (fun v i wr=>∃ q:Nat,q≤N∧i=.int .i64 q∧Hid (Owns wr w1.heap.size 3 v (ivs (List.replicate q (-1))))∧Hid (KW w1 wr)) (fun _ i _=>N - (intOf i).toNat)
   case atStart=>exact⟨0,by omega,rfl,HO0,HK0⟩
   case round=>
    obtain⟨q,hq,rfl,HO,HK⟩:=hrel
    obtain⟨Ao,co,rfl,_⟩:=HO.out.row
    have hlr:(ivs (List.replicate q (-1:Int))).length=q:=by rw[ivs_len,List.length_replicate]
    rw[hlr] at HO ⊢
    clear hlr
    by_cases hqa:q<N
    ·have L1:(q:Int)<N:=by omega
     have hk3:=HK.out.alloc (.cells #[.int .i64 (-1)] 3)
     go_wp2_with (at_builtin;refine wpList_appZ rfl rfl (base:=w1.heap.size) (i:=-1) (L:=List.replicate q (-1)) (c:=1) (v:=.slice Ao q co) rfl rfl HO.out (Below.size HK.out) (by rw[List.length_replicate];omega) ?_;intro v7 w7 HO7 HK7 HV7)
     have HK8:=hid (hk3.kept HK7.out fun b hb=>(HO.out.lt hb).1)
     have HO8:Hid (Owns w7 w1.heap.size 3 v7 (ivs (List.replicate (q+1) (-1)))):=hid (by rw[List.replicate_succ'];exact HO7.out)
     clear hk3 HO HK HO7 HK7 HV7
     go_roundw
     case rel=>exact⟨q+1,by omega,by go_num,HO8,HK8⟩
     case measure=>simp[intOf];omega
    ·obtain rfl:N=q:=by omega
     clear hqa hq
     have HL0:Hid ((List.replicate N (-1:Int)).length=N):=hid List.length_replicate
     generalize List.replicate N (-1:Int)=out0 at *
     go_wp2_with fail
     go_loopw [6,7,8] (fun i n k wr2=>∃ (q:Nat) (out:List Int),q≤N∧i=.int .i64 q∧Hid (out.length=N)∧Hid (Owns wr2 w1.heap.size 3 (.slice Ao N co) (ivs out))∧Hid (∀ j,j<q→(l.getD j Fl.o0).k=7→(j:Int)<out.getD j 0∧out.getD j 0<N)∧Hid (KW w1 wr2)) (fun i _ _ _=>N - (intOf i).toNat)
     case atStart=>exact⟨0,out0,by omega,rfl,HL0,HO,hid (fun j hj=>absurd hj (by omega)),HK⟩
     case round=>
      obtain⟨q,out,hq,rfl,HOl,HOq,HPq,HKq⟩:=hrel
      by_cases hqa:q<N
      ·have L1:(q:Int)<N:=by omega
       obtain⟨b,off,rfl,hb,c0,_⟩:=HA.out.at_ (k:=q) (by rw[HN.out];exact hqa)
       have c0':=(Below.cell HKq.out hb).trans c0
       clear c0
       by_cases h7:(l.getD q Fl.o0).k=7
       ·rw[h7] at c0'
        have H7:=hid h7
        clear h7
        go_wp2_with fail
        clear c0'
        have hg1:=hgt_7 H7.out
        have HG0:Hid (0≤hgt l q):=hid (HWl.out.1 q (by rw[HN.out];omega))
        have HGN:Hid (hgt l N=0):=hid (by have:=HWl.out.2;rw[HN.out] at this;exact this)
        have HG1:=hid hg1
        clear hg1
        go_loopw [7,8] (fun n k wr3=>∃ p:Nat,q≤p∧p<N∧k=.int .i64 p∧n=.int .i64 (hgt l (p+1) - hgt l q)∧Hid (KW w1 wr3∧wr3=wr)) (fun _ k _=>N - (intOf k).toNat)
        case atStart=>exact⟨q,Nat.le_refl _,hqa,rfl,by rw[HG1.out,show hgt l q+1 - hgt l q=1 by omega],hid ⟨HKq.out,rfl⟩⟩
        case round=>
         obtain⟨p,hqp,hpN,rfl,rfl,HKp⟩:=hrel
         have hbq:=hgt_b l q
         have hbp:=hgt_b l (p+1)
         by_cases hpos:0<hgt l (p+1) - hgt l q
         ·have hp1:p+1<N:=by
           rcases Nat.lt_or_ge (p+1) N with h|h
           ·exact h
           ·obtain rfl:p+1=N:=by omega
            have:=HGN.out
            have:=HG0.out
            omega
          have L2:((p:Int)+1)<N:=by omega
          obtain⟨b',off',he,hb',d0,_⟩:=HA.out.at_ (k:=p+1) (by rw[HN.out];exact hp1)
          cases he
          have d0':=(Below.cell HKp.out.1 hb').trans d0
          clear d0
          have hwp:IntKind.i64.wrap ((p:Int)+1)=((p+1:Nat):Int):=IntWalk.i64_in _ (by omega)
          by_cases e7:(l.getD (p+1) Fl.o0).k=7
          ·have hg:=hgt_7 e7
           rw[e7] at d0'
           clear e7
           generalize hgt l (p+1)=g1 at *
           generalize hgt l q=g0 at *
           have HG:=hid hg
           clear hg
           go_wp2_with fail
           go_roundw
           case rel=>exact⟨p+1,by omega,hp1,by go_num,by rw[HG.out,show g1+1 - g0=g1 - g0+1 by omega],HKp⟩
           case measure=>simp[intOf];omega
          ·by_cases e0:(l.getD (p+1) Fl.o0).k=0
           ·have hg:=hgt_0 e0
            rw[e0] at d0'
            clear e7 e0
            generalize hgt l (p+1)=g1 at *
            generalize hgt l q=g0 at *
            have HG:=hid hg
            clear hg
            go_wp2_with fail
            go_roundw
            case rel=>exact⟨p+1,by omega,hp1,by go_num,by rw[HG.out,show g1 - 1 - g0=g1 - g0 - 1 by omega],HKp⟩
            case measure=>simp[intOf];omega
           ·have hg:=hgt_n e7 e0
            have f7:((l.getD (p+1) Fl.o0).k==7)=false:=beq_eq_false_iff_ne.2 e7
            have f0:((l.getD (p+1) Fl.o0).k==0)=false:=beq_eq_false_iff_ne.2 e0
            generalize (l.getD (p+1) Fl.o0).k=kk at *
            clear e7 e0
            generalize hgt l (p+1)=g1 at *
            generalize hgt l q=g0 at *
            have HG:=hid hg
            clear hg
            go_wp2_with fail
            go_roundw
            case rel=>exact⟨p+1,by omega,hp1,by go_num,by rw[HG.out],HKp⟩
            case measure=>simp[intOf];omega
         ·have hpq:q<p:=by
           rcases Nat.lt_or_ge q p with h|h
           ·exact h
           ·obtain rfl:p=q:=by omega
            have:=HG1.out
            omega
          obtain⟨hkp,hwe⟩:=HKp.out
          have HOp:=HOq.out
          rw[← hwe] at HOp
          obtain⟨gb,hgb,_,hge,_,fz,cz,ho1⟩:=HOp.puti (i:=q) (by rw[HOl.out];exact hqa) (p:Int)
          subst hgb
          have hl2:(out.set q (p:Int)).length=N:=by rw[List.length_set];exact HOl.out
          obtain⟨gb2,hgb2,_,_,_,fz2,cz2,ho2⟩:=ho1.puti (i:=p) (by rw[hl2];exact hpN) (q:Int)
          cases hgb2
          have hln:Hid (((out.set q (p:Int)).set p (q:Int)).length=N):=hid (by rw[List.length_set];exact hl2)
          have HO2:=hid ho2
          have HP2:Hid (∀ j,j<q+1→(l.getD j Fl.o0).k=7→(j:Int)<((out.set q (p:Int)).set p (q:Int)).getD j 0∧((out.set q (p:Int)).set p (q:Int)).getD j 0<N):=hid fun j hj hk=>by
           rw[Sd.getD_set _ p j _ (by rw[hl2];exact hpN),if_neg (by omega),Sd.getD_set _ q j _ (by rw[HOl.out];exact hqa)]
           by_cases e:j=q
           ·rw[if_pos e];omega
           ·rw[if_neg e];exact HPq.out j (by omega) hk
          have HK2:Hid (KW w1 ((wr.setCell ⟨gb,q,none⟩ (.int .i64 (p:Int))).setCell ⟨gb,p,none⟩ (.int .i64 (q:Int)))):=hid (hkp.kept (((Keep.refl (· = gb) wr).setCell ⟨gb,q,none⟩ (.int .i64 (p:Int)) rfl).setCell ⟨gb,p,none⟩ (.int .i64 (q:Int)) rfl) fun i hi=>by omega)
          have hng:¬ 0<hgt l (p+1) - hgt l q:=hpos
          have hbb:=hgt_b l q
          generalize hgt l (p+1) - hgt l q=gg at *
          clear ho1 ho2 hl2 hwe HOp hkp HOq HPq HKq HKp
          go_wp2_with fail
          go_roundw
          case rel=>exact⟨q+1,(out.set q (p:Int)).set p (q:Int),by omega,by go_num,hln,HO2,HP2,HK2⟩
          case measure=>simp[intOf];omega
       ·have f7:((l.getD q Fl.o0).k==7)=false:=beq_eq_false_iff_ne.2 h7
        have H7:=hid h7
        clear h7
        have HP2:Hid (∀ j,j<q+1→(l.getD j Fl.o0).k=7→(j:Int)<out.getD j 0∧out.getD j 0<N):=hid fun j hj hk=>by
         by_cases e:j=q
         ·subst e;exact absurd hk H7.out
         ·exact HPq.out j (by omega) hk
        generalize (l.getD q Fl.o0).k=kk at c0' f7
        go_wp2_with fail
        go_roundw
        case rel=>exact⟨q+1,out,by omega,by go_num,HOl,HOq,HP2,HKq⟩
        case measure=>simp[intOf];omega
      ·obtain rfl:N=q:=by omega
       clear hqa
       go_wp2_with fail
       go_ret2
       exact .inr ⟨_,out,rfl,HOq.out,⟨by rw[HN.out];exact HOl.out,fun j hj hk=>by rw[HN.out] at hj ⊢;exact HPq.out j hj hk⟩,HKq.out⟩
def AsksR (w:World)(e:Ending)(w':World):Prop:=∃ a b c d:Bool,e=.returned (.agg #[.bool a,.bool b,.bool c,.bool d])∧KW w w'
theorem AsksR.of {w w':World}{e:Ending}(a b c d:Bool)(he:e=.returned (.agg #[.bool a,.bool b,.bool c,.bool d]))(hk:KW w w'):AsksR w e w':=⟨a,b,c,d,he,hk⟩
theorem rasks_any (k:Int)(w:World):Calls Tryz.prog 199 #[.int .i64 k] w (AsksR w):=by
 by_cases h1:1≤k∧k≤3
 ·obtain⟨h1,h2⟩:=h1
  go_enter Tryz.func199,Tryz.ntmps199
  go_wp2_with fail
  exact bodyPost_ret (results_cell_row rfl _ _ _ _ _ (0,0) _ rfl (heap_alloc_new w _) Tryz.underlying252 rfl (by kernel_rfl)) rfl (AsksR.of _ _ _ _ rfl ((KW.refl w).alloc _))
 by_cases h4:k=4
 ·subst h4
  clear h1
  go_enter Tryz.func199,Tryz.ntmps199
  go_wp2_with fail
  exact bodyPost_ret (results_cell_row rfl _ _ _ _ _ (0,0) _ rfl (heap_alloc_new w _) Tryz.underlying252 rfl (by kernel_rfl)) rfl (AsksR.of _ _ _ _ rfl ((KW.refl w).alloc _))
 by_cases h6:k=6
 ·subst h6
  clear h1 h4
  go_enter Tryz.func199,Tryz.ntmps199
  go_wp2_with fail
  exact bodyPost_ret (results_cell_row rfl _ _ _ _ _ (0,0) _ rfl (heap_alloc_new w _) Tryz.underlying252 rfl (by kernel_rfl)) rfl (AsksR.of _ _ _ _ rfl ((KW.refl w).alloc _))
 by_cases h5:k=5
 ·subst h5
  clear h1 h4 h6
  go_enter Tryz.func199,Tryz.ntmps199
  go_wp2_with fail
  exact bodyPost_ret (results_cell_row rfl _ _ _ _ _ (0,0) _ rfl (heap_alloc_new w _) Tryz.underlying252 rfl (by kernel_rfl)) rfl (AsksR.of _ _ _ _ rfl ((KW.refl w).alloc _))
 by_cases h7:k=7
 ·subst h7
  clear h1 h4 h6 h5
  go_enter Tryz.func199,Tryz.ntmps199
  go_wp2_with fail
  exact bodyPost_ret (results_cell_row rfl _ _ _ _ _ (0,0) _ rfl (heap_alloc_new w _) Tryz.underlying252 rfl (by kernel_rfl)) rfl (AsksR.of _ _ _ _ rfl ((KW.refl w).alloc _))
 have e4:(k==4)=false:=beq_eq_false_iff_ne.2 h4
 have e5:(k==5)=false:=beq_eq_false_iff_ne.2 h5
 have e6:(k==6)=false:=beq_eq_false_iff_ne.2 h6
 have e7:(k==7)=false:=beq_eq_false_iff_ne.2 h7
 clear h4 h5 h6 h7
 by_cases h2:1≤k
 ·have h3:3<k:=by omega
  clear h1
  go_enter Tryz.func199,Tryz.ntmps199
  go_wp2_with fail
  exact bodyPost_ret (results_cell_row rfl _ _ _ _ _ (0,0) _ rfl (heap_alloc_new w _) Tryz.underlying252 rfl (by kernel_rfl)) rfl (AsksR.of _ _ _ _ rfl ((KW.refl w).alloc _))
 ·have h3:k<1:=by omega
  clear h1
  go_enter Tryz.func199,Tryz.ntmps199
  go_wp2_with fail
  exact bodyPost_ret (results_cell_row rfl _ _ _ _ _ (0,0) _ rfl (heap_alloc_new w _) Tryz.underlying252 rfl (by kernel_rfl)) rfl (AsksR.of _ _ _ _ rfl ((KW.refl w).alloc _))
def WiR (w:World)(e:Ending)(w':World):Prop:=∃ r:Nat,r≤65537∧e=.returned (.int .i64 r)∧KW w w'
theorem WiR.of {w w':World}{e:Ending}(r:Nat)(h:r≤65537)(he:e=.returned (.int .i64 r))(hk:KW w w'):WiR w e w':=⟨r,h,he,hk⟩
structure Rf (w:World)(A:Option Addr)(l:List Fl.O)(Am:Option Addr)(cm:Nat)(out:List Int):Prop where
 ops:OpsM w A l
 own:Owns w 0 3 (.slice Am l.length cm) (ivs out)
 ok:MtOk l out
 len:l.length≤1048576
 hv:∀ o,o∈l→0≤o.v∧o.v<18446744073709551616
theorem Rf.kw {w w':World}{A:Option Addr}{l:List Fl.O}{Am:Option Addr}{cm:Nat}{out:List Int}(h:Rf w A l Am cm out)(hk:KW w w'):Rf w' A l Am cm out:=⟨h.ops.kw hk,h.own.on hk,h.ok,h.len,h.hv⟩
theorem Rf.at_ {w:World}{A:Option Addr}{l:List Fl.O}{Am:Option Addr}{cm:Nat}{out:List Int}(h:Rf w A l Am cm out){i:Nat}(hi:i<l.length):∃ g,Am=some ⟨g,0,none⟩∧w.cell? ⟨g,i,none⟩=some (.int .i64 (out.getD i 0)):=by
 obtain⟨g,e,_,_,_,_,c,_⟩:=h.own.puti (i:=i) (by rw[h.ok.1];exact hi) 0
 exact⟨g,e,c⟩
theorem rblock_of (A:Option Addr)(c:Nat)(l:List Fl.O)(Am:Option Addr)(cm:Nat)(out:List Int)(i:Nat)(w:World)(h:Rf w A l Am cm out)(hi:i<l.length)(h7:(l.getD i Fl.o0).k=7)
 (hW:∀ (to:Nat),to≤l.length→Calls Tryz.prog 164 #[.slice A l.length c,.slice Am l.length cm,.int .i64 ((i+1:Nat):Int),.int .i64 to] w (WiR w)):
 Calls Tryz.prog 163 #[.slice A l.length c,.slice Am l.length cm,.int .i64 i] w (WiR w):=by
 obtain⟨hm1,hm2⟩:=h.ok.2 i hi h7
 obtain⟨m,hm⟩:∃ m:Nat,out.getD i 0=m:=⟨(out.getD i 0).toNat,by omega⟩
 have HWi:=hid (hW m (by omega))
 obtain⟨g,rfl,cm0⟩:=h.at_ hi
 rw[hm] at cm0
 obtain⟨b,off,rfl,hb,_,_,_,_,cv⟩:=h.ops.at_ hi
 have hvr:=h.hv (l.getD i Fl.o0) (by
  rw[show l.getD i Fl.o0=l[i] by simp[List.getD,hi]]
  exact List.getElem_mem hi)
 obtain⟨v,hv⟩:∃ v:Nat,(l.getD i Fl.o0).v=v:=⟨(l.getD i Fl.o0).v.toNat,by omega⟩
 rw[hv] at cv hvr
 have hwi:IntKind.i64.wrap ((i:Int)+1)=((i+1:Nat):Int):=IntWalk.i64_in _ (by have:=h.len;omega)
 have HC:Hid (∀ W,KW w W→W.cell? ⟨b,off+i * 5+4,none⟩=some (.int .u64 (v:Int))):=hid fun W hW=>(Below.cell hW hb).trans cv
 have hln:=h.len
 generalize hN:l.length=N at *
 have L1:(i:Int)<N:=by omega
 clear h hW h7 hm1 hm2 hm hv cv hN
 go_enter Tryz.func163,Tryz.ntmps163
 go_wp2_with fail
 refine HWi.out.mono ?_
 rintro e w1 ⟨r,hr,rfl,hk1⟩
 have HK1:=hid hk1
 have cv:=HC.out w1 hk1
 clear hk1 cm0 HWi
 by_cases hr0:r=0
 ·subst hr0
  go_wp2_with fail
  go_ret
  exact WiR.of 0 (by omega) rfl HK1.out
 have er:((r:Int)==0)=false:=beq_eq_false_iff_ne.2 (by omega)
 by_cases hv0:v=0
 ·subst hv0
  go_wp2_with fail
  go_ret
  exact WiR.of 0 (by omega) rfl HK1.out
 have ev:((v:Int)==0)=false:=beq_eq_false_iff_ne.2 (by omega)
 by_cases hvb:65536<v
 ·go_wp2_with fail
  go_ret
  exact WiR.of 65537 (by omega) rfl HK1.out
 obtain⟨p,hp⟩:∃ p,r * v=p:=⟨_,rfl⟩
 have hpb:p≤65537 * 65536:=by rw[← hp];exact Nat.mul_le_mul hr (by omega)
 have hwv:IntKind.i64.wrap (v:Int)=(v:Int):=IntWalk.i64_in _ (by omega)
 have hwp:IntKind.i64.wrap ((r:Int) * (v:Int))=(p:Int):=by rw[show(r:Int) * (v:Int)=(p:Int) by rw[← hp];push_cast;rfl];exact IntWalk.i64_in _ (by omega)
 have hv1:v≤65536:=by omega
 clear hp hvb hv0 hr0
 by_cases hpp:65536<p
 ·go_wp2_with fail
  go_ret
  exact WiR.of 65537 (by omega) rfl HK1.out
 ·go_wp2_with fail
  go_ret
  exact WiR.of p (by omega) rfl HK1.out
theorem bool4_0 (a b c d:Bool)(W:World):(Instr.index 252 (.agg #[.bool a,.bool b,.bool c,.bool d]) (.int .i64 0)).run Tryz.prog W=.ok (.bool a) W:=by kernel_rfl
theorem rwithin_any (A:Option Addr)(c:Nat)(l:List Fl.O)(Am:Option Addr)(cm:Nat)(out:List Int):∀ (n from_ to:Nat) (w:World),Rf w A l Am cm out→l.length - from_=n→from_≤l.length→to≤l.length →
 Calls Tryz.prog 164 #[.slice A l.length c,.slice Am l.length cm,.int .i64 from_,.int .i64 to] w (WiR w):=by
 intro n
 induction n using Nat.strongRecOn with
 | ind n IH=>
 intro from_ to w h hn hf ht
 have HBl:Hid (∀ i W,KW w W→from_≤i→i<l.length→(l.getD i Fl.o0).k=7→Calls Tryz.prog 163 #[.slice A l.length c,.slice Am l.length cm,.int .i64 i] W (WiR W)):=hid fun i W hW hfi hi h7=>
  rblock_of A c l Am cm out i W (h.kw hW) hi h7 fun to' ht'=>IH (l.length - (i+1)) (by omega) (i+1) to' W (h.kw hW) rfl (by omega) ht'
 have HR:=hid h
 have HAs:=hid rasks_any
 have hln:=h.len
 obtain⟨N,hN⟩:∃ N,l.length=N:=⟨_,rfl⟩
 have HN:=hid hN
 rw[hN] at hln hf ht HBl ⊢
 clear h IH hn hN
 go_enter Tryz.func164,Tryz.ntmps164
 go_wp2_with fail
 go_loopw [9,10] (fun nv iv wr=>∃ q r:Nat,q≤N∧from_≤q∧r≤65536∧iv=.int .i64 q∧nv=.int .i64 r∧Hid (KW w wr)) (fun _ iv _=>N - (intOf iv).toNat)
 case atStart=>exact⟨from_,0,hf,Nat.le_refl _,by omega,rfl,rfl,hid (KW.refl w)⟩
 case round=>
  obtain⟨q,r,hq,hfq,hr,rfl,rfl,HK⟩:=hrel
  by_cases hqt:q<to
  ·have L1:(q:Int)<to:=by omega
   have L2:(q:Int)<N:=by omega
   have hqN:q<N:=by omega
   obtain⟨b,off,rfl,hb,c0,_⟩:=(HR.out.kw HK.out).ops.at_ (k:=q) (by rw[HN.out];exact hqN)
   by_cases h7:(l.getD q Fl.o0).k=7
   ·obtain⟨hm1,hm2⟩:=HR.out.ok.2 q (by rw[HN.out];exact hqN) h7
    rw[HN.out] at hm2
    have HBq:=hid (HBl.out q wr HK.out hfq hqN h7)
    rw[h7] at c0
    obtain⟨m,hm⟩:∃ m:Nat,out.getD q 0=m:=⟨(out.getD q 0).toNat,by omega⟩
    obtain⟨g,rfl,_⟩:=HR.out.at_ (i:=q) (by rw[HN.out];exact hqN)
    have HCm:Hid (∀ W,KW w W→W.cell? ⟨g,q,none⟩=some (.int .i64 (m:Int))):=hid fun W hW=>by
     obtain⟨g',e,c'⟩:=(HR.out.kw hW).at_ (i:=q) (by rw[HN.out];exact hqN)
     cases e
     rw[hm] at c'
     exact c'
    have hmN:m<N:=by omega
    have hqm:q<m:=by omega
    clear h7 hm1 hm2 hm
    go_wp2_with fail
    refine HBq.out.mono ?_
    rintro e w1 ⟨r1,hr1,rfl,hk1⟩
    have HK1:=hid (HK.out.t hk1)
    have cm0:=HCm.out w1 HK1.out
    have hwr:IntKind.i64.wrap ((r:Int)+(r1:Int))=((r+r1:Nat):Int):=by rw[show(r:Int)+(r1:Int)=((r+r1:Nat):Int) by push_cast;rfl];exact IntWalk.i64_in _ (by omega)
    clear hk1 HBq HCm c0 hb HK
    generalize hrr:r+r1=rr at *
    by_cases hbig:65536<rr
    ·go_wp2_with fail
     go_ret
     exact WiR.of 65537 (by omega) rfl HK1.out
    ·go_wp2_with fail
     go_roundw
     case rel=>exact⟨m+1,rr,by omega,by omega,by omega,by go_num,rfl,HK1⟩
     case measure=>simp[intOf];omega
   ·have f7:((l.getD q Fl.o0).k==7)=false:=beq_eq_false_iff_ne.2 h7
    have HAq:=hid (HAs.out (l.getD q Fl.o0).k wr)
    generalize (l.getD q Fl.o0).k=kk at *
    clear h7
    go_wp2_with fail
    refine HAq.out.mono ?_
    rintro e w1 ⟨b0,b1,b2,b3,rfl,hk1⟩
    have HK1:=hid (HK.out.t hk1)
    have hix:=bool4_0 b0 b1 b2 b3
    clear hk1 HAq c0 hb HK
    cases b0 with
    | true=>
      obtain⟨rr,hrr⟩:∃ rr,r+1=rr:=⟨_,rfl⟩
      have hwr:IntKind.i64.wrap ((r:Int)+1)=(rr:Int):=by rw[show(r:Int)+1=(rr:Int) by omega];exact IntWalk.i64_in _ (by omega)
      by_cases hbig:65536<rr
      ·go_wp2_with fail
       go_ret
       exact WiR.of 65537 (by omega) rfl HK1.out
      ·go_wp2_with fail
       go_roundw
       case rel=>exact⟨q+1,rr,by omega,by omega,by omega,by go_num,rfl,HK1⟩
       case measure=>simp[intOf];omega
    | false=>
      go_wp2_with fail
      go_roundw
      case rel=>exact⟨q+1,r,by omega,by omega,by omega,by go_num,rfl,HK1⟩
      case measure=>simp[intOf];omega
  ·have L1:¬ (q:Int)<to:=by omega
   go_wp2_with fail
   go_ret
   exact WiR.of r (by omega) rfl HK.out
def WrR (w:World)(e:Ending)(w':World):Prop:=∃ (r:Nat) (x:Int),r≤65536∧e=.returned (.tuple #[.int .i64 r,.int .i64 x])∧KW w w'
theorem WrR.of {w w':World}{e:Ending}(r:Nat)(x:Int)(h:r≤65536)(he:e=.returned (.tuple #[.int .i64 r,.int .i64 x]))(hk:KW w w'):WrR w e w':=⟨r,x,h,he,hk⟩
theorem rwrites_any (A:Option Addr)(c:Nat)(l:List Fl.O)(w:World)(hlen:l.length≤1048576)(hA:OpsM w A l)(hv:∀ o,o∈l→0≤o.v∧o.v<18446744073709551616):
 Calls Tryz.prog 118 #[.slice A l.length c] w (WrR w):=by
 have HMt:=hid (rmatch_any A c l w hlen hA)
 have HA:=hid hA
 obtain⟨N,hN⟩:∃ N,l.length=N:=⟨_,rfl⟩
 have HN:=hid hN
 have HV:=hid hv
 rw[hN] at hlen HMt ⊢
 clear hA hN hv
 go_enter Tryz.func118,Tryz.ntmps118
 go_wp2_with fail
 refine HMt.out.mono ?_
 rintro e w1 (⟨rfl,hk1⟩|⟨v,out,rfl,hov,hok,hk1⟩)
 ·have HK1:=hid hk1
  clear hk1
  go_wp2_with fail
  go_ret2
  exact WrR.of 0 6 (by omega) rfl HK1.out
 ·have HK1:=hid hk1
  obtain⟨Am,cm,rfl,_⟩:=hov.row
  have hlo:(ivs out).length=N:=by rw[ivs_len,hok.1,HN.out]
  rw[hlo] at hov ⊢
  have HR:Hid (Rf w1 A l Am cm out):=hid ⟨HA.out.kw hk1,by rw[HN.out];exact hov.base (Nat.zero_le _),hok,by rw[HN.out];exact hlen,HV.out⟩
  have HWi:Hid (∀ (f t:Nat) W,KW w1 W→f≤N→t≤N→Calls Tryz.prog 164 #[.slice A N c,.slice Am N cm,.int .i64 f,.int .i64 t] W (WiR W)):=hid fun f t W hW hf ht=>by
   have:=rwithin_any A c l Am cm out (l.length - f) f t W (HR.out.kw hW) rfl (by rw[HN.out];exact hf) (by rw[HN.out];exact ht)
   rw[HN.out] at this
   exact this
  have HBl:Hid (∀ i W,KW w1 W→i<N→(l.getD i Fl.o0).k=7→Calls Tryz.prog 163 #[.slice A N c,.slice Am N cm,.int .i64 i] W (WiR W)):=hid fun i W hW hi h7=>by
   have:=rblock_of A c l Am cm out i W (HR.out.kw hW) (by rw[HN.out];exact hi) h7 fun to ht=>rwithin_any A c l Am cm out (l.length - (i+1)) (i+1) to W (HR.out.kw hW) rfl (by rw[HN.out];exact hi) ht
   rw[HN.out] at this
   exact this
  clear hov hok hlo hk1 HMt
  go_wp2_with fail
  go_loopw [6] (fun i wr=>∃ q:Nat,q≤N∧i=.int .i64 q∧Hid (KW w1 wr)) (fun i _=>N - (intOf i).toNat)
  case atStart=>exact⟨0,by omega,rfl,hid (KW.refl w1)⟩
  case round=>
   obtain⟨q,hq,rfl,HK⟩:=hrel
   by_cases hqN:q<N
   ·have L1:(q:Int)<N:=by omega
    obtain⟨b,off,rfl,hb,c0,_⟩:=(HR.out.kw HK.out).ops.at_ (k:=q) (by rw[HN.out];exact hqN)
    by_cases h7:(l.getD q Fl.o0).k=7
    ·obtain⟨hm1,hm2⟩:=HR.out.ok.2 q (by rw[HN.out];exact hqN) h7
     rw[HN.out] at hm2
     have HBq:=hid (HBl.out q wr HK.out hqN h7)
     rw[h7] at c0
     obtain⟨m,hm⟩:∃ m:Nat,out.getD q 0=m:=⟨(out.getD q 0).toNat,by omega⟩
     obtain⟨g,rfl,_⟩:=HR.out.at_ (i:=q) (by rw[HN.out];exact hqN)
     have HCm:Hid (∀ W,KW w1 W→W.cell? ⟨g,q,none⟩=some (.int .i64 (m:Int))):=hid fun W hW=>by
      obtain⟨g',e,c'⟩:=(HR.out.kw hW).at_ (i:=q) (by rw[HN.out];exact hqN)
      cases e
      rw[hm] at c'
      exact c'
     have hmN:m<N:=by omega
     have hwi:IntKind.i64.wrap ((q:Int)+1)=((q+1:Nat):Int):=IntWalk.i64_in _ (by omega)
     clear h7 hm1 hm2 hm
     go_wp2_with fail
     refine HBq.out.mono ?_
     rintro e w2 ⟨r1,hr1,rfl,hk2⟩
     have HK2:=hid (HK.out.t hk2)
     clear hk2 HBq c0 hb
     by_cases hbig:65536<r1
     ·go_wp2_with fail
      go_ret2
      exact WrR.of 0 9 (by omega) rfl (HK1.out.t HK2.out)
     ·have cm0:=HCm.out w2 HK2.out
      have HWq:=hid (HWi.out (q+1) m w2 HK2.out (by omega) (by omega))
      go_wp2_with fail
      refine HWq.out.mono ?_
      rintro e w3 ⟨r2,hr2,rfl,hk3⟩
      have HK3:=hid (HK2.out.t hk3)
      clear hk3 HWq cm0 HCm
      by_cases hbig2:65536<r2
      ·go_wp2_with fail
       go_ret2
       exact WrR.of 0 9 (by omega) rfl (HK1.out.t HK3.out)
      ·go_wp2_with fail
       go_roundw
       case rel=>exact⟨q+1,by omega,by go_num,HK3⟩
       case measure=>simp[intOf];omega
    ·have f7:((l.getD q Fl.o0).k==7)=false:=beq_eq_false_iff_ne.2 h7
     generalize (l.getD q Fl.o0).k=kk at *
     clear h7
     go_wp2_with fail
     go_roundw
     case rel=>exact⟨q+1,by omega,by go_num,HK⟩
     case measure=>simp[intOf];omega
   ·obtain rfl:N=q:=by omega
    have HWq:=hid (HWi.out 0 N wr HK.out (by omega) (Nat.le_refl _))
    clear hqN
    go_wp2_with fail
    refine HWq.out.mono ?_
    rintro e w3 ⟨r2,hr2,rfl,hk3⟩
    have HK3:=hid (HK.out.t hk3)
    clear hk3 HWq
    by_cases hbig2:65536<r2
    ·go_wp2_with fail
     go_ret2
     exact WrR.of 0 9 (by omega) rfl (HK1.out.t HK3.out)
    ·go_wp2_with fail
     go_ret2
     exact WrR.of r2 0 (by omega) rfl (HK1.out.t HK3.out)
def BoolR (w:World)(e:Ending)(w':World):Prop:=∃ b:Bool,e=.returned (.bool b)∧KW w w'
theorem BoolR.of {w w':World}{e:Ending}(b:Bool)(he:e=.returned (.bool b))(hk:KW w w'):BoolR w e w':=⟨b,he,hk⟩
theorem rform_any (n:Int)(A:Option Addr)(c:Nat)(l:List Fl.O)(w:World)(hlen:l.length≤1048576)(hA:OpsM w A l):
 Calls Tryz.prog 235 #[.agg (pgv n A l.length c)] w (BoolR w):=by
 have hk0:=(KW.refl w).alloc (.cells #[.int .i64 n,.slice A l.length c] 25)
 have HWl:=hid (rwell_any A c l _ hlen (hA.kw hk0))
 have hcc:=pgv_row w 25 n A l.length c
 have HA:=hid hA
 have HRg:=hid rright07_any
 unfold opv pgv at *
 obtain⟨N,hN⟩:∃ N,l.length=N:=⟨_,rfl⟩
 have HN:=hid hN
 rw[hN] at hlen HWl hk0 hcc ⊢
 have HC:Hid (∀ W,KW (w.alloc (.cells #[.int .i64 n,.slice A N c] 25)) W→W.cell? ⟨w.heap.size,1,none⟩=some (.slice A N c)):=hid fun W hW=>(hW.keep (own:=fun _=>False)).cs id hcc.2
 have HK0:=hid hk0
 clear hA hN hk0 hcc
 by_cases hbig:(4096:Int)<N
 ·go_enter Tryz.func235,Tryz.ntmps235
  go_wp2_with fail
  go_ret
  exact BoolR.of false rfl HK0.out
 ·go_enter Tryz.func235,Tryz.ntmps235
  go_wp2_with fail
  refine HWl.out.mono ?_
  rintro e w1 ⟨b,rfl,_,rfl⟩
  cases b with
  | false=>
    go_wp2_with fail
    go_ret
    exact BoolR.of false rfl HK0.out
  | true=>
    go_wp2_with fail
    generalize hW1:w.alloc (.cells #[.int .i64 n,.slice A N c] 25)=W1 at *
    clear hW1
    go_loopw [3] (fun i wr=>∃ q:Nat,q≤N∧i=.int .i64 q∧Hid (KW W1 wr)) (fun i _=>N - (intOf i).toNat)
    case atStart=>exact⟨0,by omega,rfl,hid (KW.refl W1)⟩
    case round=>
     obtain⟨q,hq,rfl,HK⟩:=hrel
     have c1:=HC.out wr HK.out
     by_cases hqN:q<N
     ·have L1:(q:Int)<N:=by omega
      obtain⟨b,off,rfl,hb,c00,c01,c02,c03,c04⟩:=((HA.out.kw HK0.out).kw HK.out).at_ (k:=q) (by rw[HN.out];exact hqN)
      have HRq:=hid (HRg.out (l.getD q Fl.o0).k (l.getD q Fl.o0).d (l.getD q Fl.o0).a (l.getD q Fl.o0).b (l.getD q Fl.o0).v wr)
      generalize Oc.right (l.getD q Fl.o0).k (l.getD q Fl.o0).d (l.getD q Fl.o0).a (l.getD q Fl.o0).b (l.getD q Fl.o0).v=rb at *
      generalize l.getD q Fl.o0=op at *
      go_wp2_with fail
      refine HRq.out.mono ?_
      rintro e w2 ⟨rfl,hk2⟩
      have HK2:=hid (HK.out.t hk2)
      clear hk2 HRq c00 c01 c02 c03 c04 hb c1
      cases rb with
      | false=>
        go_wp2_with fail
        go_ret
        exact BoolR.of false rfl (HK0.out.t HK2.out)
      | true=>
        go_wp2_with fail
        go_roundw
        case rel=>exact⟨q+1,by omega,by go_num,HK2⟩
        case measure=>simp[intOf];omega
     ·obtain rfl:N=q:=by omega
      clear hqN
      go_wp2_with fail
      go_ret
      exact BoolR.of true rfl (HK0.out.t HK.out)
theorem rregs_any (n:Int)(A:Option Addr)(c:Nat)(l:List Fl.O)(w:World)(hlen:l.length≤1048576)(hA:OpsM w A l):
 Calls Tryz.prog 236 #[.agg (pgv n A l.length c)] w (BoolR w):=by
 have hk0:=(KW.refl w).alloc (.cells #[.int .i64 n,.slice A l.length c] 25)
 have hcc:=pgv_row w 25 n A l.length c
 have HA:=hid hA
 have HAs:=hid rasks_any
 unfold pgv at *
 obtain⟨N,hN⟩:∃ N,l.length=N:=⟨_,rfl⟩
 have HN:=hid hN
 rw[hN] at hlen hk0 hcc ⊢
 have HC:Hid (∀ W,KW (w.alloc (.cells #[.int .i64 n,.slice A N c] 25)) W→W.cell? ⟨w.heap.size,0,none⟩=some (.int .i64 n)∧W.cell? ⟨w.heap.size,1,none⟩=some (.slice A N c)):=hid fun W hW=>⟨(hW.keep (own:=fun _=>False)).cs id hcc.1,(hW.keep (own:=fun _=>False)).cs id hcc.2⟩
 have HK0:=hid hk0
 clear hA hN hk0 hcc
 by_cases hlo:n<1
 ·go_enter Tryz.func236,Tryz.ntmps236
  go_wp2_with fail
  go_ret
  exact BoolR.of false rfl HK0.out
 by_cases hhi:64<n
 ·go_enter Tryz.func236,Tryz.ntmps236
  go_wp2_with fail
  go_ret
  exact BoolR.of false rfl HK0.out
 go_enter Tryz.func236,Tryz.ntmps236
 go_wp2_with fail
 generalize hW1:w.alloc (.cells #[.int .i64 n,.slice A N c] 25)=W1 at *
 obtain⟨g1,hg1⟩:∃ g1,w.heap.size=g1:=⟨_,rfl⟩
 have hgl:g1<W1.heap.size:=by rw[← hW1,← hg1];simp
 rw[hg1] at HC ⊢
 clear hW1 hg1
 go_loopw [3] (fun i wr=>∃ q:Nat,q≤N∧i=.int .i64 q∧Hid (KW W1 wr)) (fun i _=>N - (intOf i).toNat)
 case atStart=>exact⟨0,by omega,rfl,hid (KW.refl W1)⟩
 case round=>
  obtain⟨q,hq,rfl,HK⟩:=hrel
  obtain⟨c0,c1⟩:=HC.out wr HK.out
  by_cases hqN:q<N
  ·have L1:(q:Int)<N:=by omega
   obtain⟨b,off,rfl,hb,c00,c01,c02,c03,c04⟩:=((HA.out.kw HK0.out).kw HK.out).at_ (k:=q) (by rw[HN.out];exact hqN)
   generalize l.getD q Fl.o0=op at *
   obtain⟨k,d,a,b2,v⟩:=op
   dsimp only at c00 c01 c02 c03 c04
   have hk2:=(KW.refl wr).alloc (.cells #[.int .i64 k,.int .i64 d,.int .i64 a,.int .i64 b2,.int .u64 v] 83)
   have HAq:=hid (HAs.out k (wr.alloc (.cells #[.int .i64 k,.int .i64 d,.int .i64 a,.int .i64 b2,.int .u64 v] 83)))
   have HRow:Hid (∀ W,KW (wr.alloc (.cells #[.int .i64 k,.int .i64 d,.int .i64 a,.int .i64 b2,.int .u64 v] 83)) W→W.cell? ⟨wr.heap.size,1,none⟩=some (.int .i64 d)∧W.cell? ⟨wr.heap.size,2,none⟩=some (.int .i64 a)∧W.cell? ⟨wr.heap.size,3,none⟩=some (.int .i64 b2)):=hid fun W hW=>by
    have hh:=heap_alloc_new wr (.cells #[.int .i64 k,.int .i64 d,.int .i64 a,.int .i64 b2,.int .u64 v] 83)
    have hc:∀ i x,#[Value.int .i64 k,.int .i64 d,.int .i64 a,.int .i64 b2,.int .u64 v][i]?=some x→W.cell? ⟨wr.heap.size,i,none⟩=some x:=fun i x hx=>(hW.keep (own:=fun _=>False)).cs id (by unfold World.cell?;rw[hh];exact hx)
    exact⟨hc 1 _ rfl,hc 2 _ rfl,hc 3 _ rfl⟩
   have HK2:=hid (HK.out.t hk2)
   clear hk2
   go_wp2_with fail
   refine HAq.out.mono ?_
   rintro e w3 ⟨x0,x1,x2,x3,rfl,hk3⟩
   have hk4:=hk3.alloc (.cells #[.bool x0,.bool x1,.bool x2,.bool x3] 252)
   have HK4:=hid (HK2.out.t hk4)
   obtain⟨e1,e2,e3⟩:=HRow.out _ hk4
   obtain⟨f0,f1⟩:=HC.out _ HK4.out
   clear hk3 hk4 HAq HRow c00 c01 c02 c03 c04 hb c0 c1 HK HK2
   cases x0 with
   | false=>
     cases x1 with
     | false=>
       cases x2 with
       | false=>
         go_wp2_with fail
         go_roundw
         case rel=>exact⟨q+1,by omega,by go_num,HK4⟩
         case measure=>simp[intOf];omega
       | true=>
         by_cases q2:n≤b2
         ·skip
          go_wp2_with fail
          go_ret
          exact BoolR.of false rfl (HK0.out.t HK4.out)
         ·skip
          go_wp2_with fail
          go_roundw
          case rel=>exact⟨q+1,by omega,by go_num,HK4⟩
          case measure=>simp[intOf];omega
     | true=>
       by_cases q1:n≤a
       ·skip
        go_wp2_with fail
        go_ret
        exact BoolR.of false rfl (HK0.out.t HK4.out)
       ·skip
        cases x2 with
        | false=>
          go_wp2_with fail
          go_roundw
          case rel=>exact⟨q+1,by omega,by go_num,HK4⟩
          case measure=>simp[intOf];omega
        | true=>
          by_cases q2:n≤b2
          ·skip
           go_wp2_with fail
           go_ret
           exact BoolR.of false rfl (HK0.out.t HK4.out)
          ·skip
           go_wp2_with fail
           go_roundw
           case rel=>exact⟨q+1,by omega,by go_num,HK4⟩
           case measure=>simp[intOf];omega
   | true=>
     by_cases q0:n≤d
     ·skip
      go_wp2_with fail
      go_ret
      exact BoolR.of false rfl (HK0.out.t HK4.out)
     ·skip
      cases x1 with
      | false=>
        cases x2 with
        | false=>
          go_wp2_with fail
          go_roundw
          case rel=>exact⟨q+1,by omega,by go_num,HK4⟩
          case measure=>simp[intOf];omega
        | true=>
          by_cases q2:n≤b2
          ·skip
           go_wp2_with fail
           go_ret
           exact BoolR.of false rfl (HK0.out.t HK4.out)
          ·skip
           go_wp2_with fail
           go_roundw
           case rel=>exact⟨q+1,by omega,by go_num,HK4⟩
           case measure=>simp[intOf];omega
      | true=>
        by_cases q1:n≤a
        ·skip
         go_wp2_with fail
         go_ret
         exact BoolR.of false rfl (HK0.out.t HK4.out)
        ·skip
         cases x2 with
         | false=>
           go_wp2_with fail
           go_roundw
           case rel=>exact⟨q+1,by omega,by go_num,HK4⟩
           case measure=>simp[intOf];omega
         | true=>
           by_cases q2:n≤b2
           ·skip
            go_wp2_with fail
            go_ret
            exact BoolR.of false rfl (HK0.out.t HK4.out)
           ·skip
            go_wp2_with fail
            go_roundw
            case rel=>exact⟨q+1,by omega,by go_num,HK4⟩
            case measure=>simp[intOf];omega
  ·obtain rfl:N=q:=by omega
   clear hqN
   go_wp2_with fail
   go_ret
   exact BoolR.of true rfl (HK0.out.t HK.out)
end Go.Proofs.YtphppbonljdibaaGreat
